/- Parts of the proof, merged: DateF DayPlain DayB DayA DayC DayD Mark Item ItemV RiPlain. -/
import Derived.Test.YtfnmlffpnmmcdaaGreatDoorMc2
import Derived.Test.YtfnmlffpnmmcdaaGreatDoorMc1
import Derived.Deep.QuietTactic
import Derived.BigQuiet
import Derived.StillTailTactics
import Derived.Laws.BytesString
import Derived.Laws.Cells
import Derived.Deep.RegionHeld3
namespace Go.Proofs.YtfnmlffpnmmcdaaGreatDoor
set_option maxRecDepth 100000
open Go.RowKit
theorem cumM_full (y : Int) : cumM y 12 = restM y 12 := by
 simp only [cumM, restM, mdOf]
 cases leapB y <;> simp
theorem conv_c (w : World) (c : Int) : (convert 40 9 (.slice (some ⟨w.heap.size, 0, none⟩) 1 1)).run Tryz.prog (w.alloc (.cells #[.int .u8 c] 5)) = .ok (.string (ByteArray.empty.push (UInt8.ofNat c.toNat))) (w.alloc (.cells #[.int .u8 c] 5)) := by
 rw [run_convert_bytes_string _ 40 9 5 _ _ _ Tryz.underlying40 Tryz.underlying5 Tryz.underlying9]
 rw [run_bytesToString _ _ 1 1 [c] (run_loadCells_list _ _ [.int .u8 c] (fun j v hj => by
  match j, hj with
  | 0, hj =>
   simp only [List.getElem?_cons_zero, Option.some.injEq] at hj
   subst hj
   show World.cell? _ ⟨w.heap.size, 0, none⟩ = _
   rw [World.cell?_alloc_at _ _ _ _ rfl]; rfl))]
 rfl
theorem dayN_first (y : Int) (w : World) (h1 : 1 ≤ y) (h2 : y ≤ 4000) (j : Nat) (hj : j ≤ 11) : Calls Tryz.prog 122 #[.int .i64 y, .int .i64 ((j : Int) + 1), .int .i64 1] w fun e w' => e = .returned (.int .i64 (dB y + cumM y j)) ∧ Below w.heap.size w w' := by
 have h := specDayNumber_any y 1 (j + 1) w h1 h2 (by omega) (by omega) (by omega) (by have := mdOf_bounds y ((j + 1 : Nat) : Int); omega)
 rw [show dB y + 1 - 1 + cumM y (j + 1 - 1) = dB y + cumM y j by rw [Nat.add_sub_cancel]; omega] at h
 exact h
theorem dayN_last (w : World) : Calls Tryz.prog 122 #[.int .i64 4000, .int .i64 12, .int .i64 31] w fun e w' => e = .returned (.int .i64 1460969) ∧ Below w.heap.size w w' := by
 have h := specDayNumber_any 4000 31 12 w (by omega) (by omega) (by omega) (by omega) (by omega) (by decide)
 rw [show dB 4000 + 31 - 1 + cumM 4000 (12 - 1) = 1460969 by decide] at h
 exact h
set_option maxHeartbeats 1600000 in
theorem specDateText_any (d : Int) (w : World) : Calls Tryz.prog 123 #[.int .i64 d] w fun e w' => (∃ s : ByteArray, e = .returned (.string s) ∧ IsDay d s) ∧ Below w.heap.size w w' := by
 have HLA := Lib.hid dB_last
 by_cases h0 : 0 ≤ d ∧ d < 1460970
 ·have HI := Lib.hid (inB_true (n := d) (lo := 0) (hi := 1460969) h0.1 (by omega))
  have HY := Lib.hid (dayB_yes h0.1 h0.2)
  obtain ⟨h00, h01⟩ := h0
  go_enter Tryz.func123, Tryz.ntmps123
  go_wp2_with fail
  refine (dayN_last w).mono ?_
  rintro e w1 ⟨rfl, hb1⟩
  go_wp2_with fail
  refine (l1In_any _ _ _ w1).mono ?_
  rintro e w' ⟨rfl, rfl⟩
  rw [HI.out]
  go_wp2_with fail
  go_loopw [3] (fun i wr => ∃ y : Int, 1 ≤ y ∧ y ≤ 4000 ∧ dB y ≤ d ∧ i = .int .i64 y ∧ Below w.heap.size w wr) (fun i _ => (4001 - intOf i).toNat)
  case atStart => exact ⟨d / 366 + 1, by omega, by omega, by have := dB_le (y := d / 366 + 1) (by omega); omega, rfl, hb1⟩
  case round =>
   clear hb1
   obtain ⟨y, hy1, hy2, hyd, rfl, hbl⟩ := hrel
   have hsw := hbl.size
   by_cases hex : y < 4000 ∧ dB (y + 1) ≤ d
   ·obtain ⟨hy4, hc⟩ := hex
    have d0 : decide (y < 4000) = true := decide_eq_true hy4
    have d1 : decide (dB (y + 1) ≤ d) = true := decide_eq_true hc
    have hcall := dayN_first (y + 1) wr (by omega) (by omega) 0 (by omega)
    rw [show dB (y + 1) + cumM (y + 1) 0 = dB (y + 1) by simp [cumM]] at hcall
    have HC := Lib.hid hcall
    clear hcall
    go_wp2_with fail
    refine HC.out.mono ?_
    rintro e w2 ⟨rfl, hb2⟩
    go_wp2_with fail
    go_roundw
    case rel => exact ⟨y + 1, by omega, by omega, hc, by first | rfl | trivial, hbl.trans (hb2.mono hsw)⟩
    case measure => simp [intOf]; omega
   ·have hr : Hid (d < dB y + restM y 12) := Lib.hid (by
       rw [← dB_succ]
       by_cases h4 : y < 4000
       ·exact Int.not_le.1 (fun h => hex ⟨h4, h⟩)
       ·have e : y = 4000 := by omega
        subst e
        have := HLA.out
        show d < dB 4001
        omega)
    by_cases hy4 : y < 4000
    ·have d0 : decide (y < 4000) = true := decide_eq_true hy4
     have d1 : decide (dB (y + 1) ≤ d) = false := decide_eq_false (fun h => hex ⟨hy4, h⟩)
     have hcall := dayN_first (y + 1) wr (by omega) (by omega) 0 (by omega)
     rw [show dB (y + 1) + cumM (y + 1) 0 = dB (y + 1) by simp [cumM]] at hcall
     have HC := Lib.hid hcall
     clear hcall hex
     go_wp2_with fail
     refine HC.out.mono ?_
     clear HC
     rintro e w2 ⟨rfl, hb2⟩
     have hbl2 := hbl.trans (hb2.mono hsw)
     clear hbl hb2 hsw
     go_wp2_with fail
     go_loopw [4] (fun i wr => ∃ j : Nat, j ≤ 11 ∧ dB y + cumM y j ≤ d ∧ i = .int .i64 ((j : Int) + 1) ∧ Below w.heap.size w wr) (fun i _ => (13 - intOf i).toNat)
     case atStart => exact ⟨0, by omega, by simp [cumM]; exact hyd, by simp, hbl2⟩
     case round =>
      clear hbl2
      obtain ⟨j, hj, hjd, rfl, hbl⟩ := hrel
      have hsw := hbl.size
      have hge := dB_ge hy1
      have hcb := cumM_bounds y j
      by_cases hex : j < 11 ∧ dB y + cumM y (j + 1) ≤ d
      ·obtain ⟨hj1, hc⟩ := hex
       have d0 : decide ((j : Int) + 1 < 12) = true := decide_eq_true (by omega)
       have d1 : decide (dB y + cumM y (j + 1) ≤ d) = true := decide_eq_true hc
       have hcall := dayN_first y wr hy1 hy2 (j + 1) (by omega)
       rw [show ((j + 1 : Nat) : Int) + 1 = (j : Int) + 1 + 1 by omega] at hcall
       have HC := Lib.hid hcall
       clear hcall
       go_wp2_with fail
       refine HC.out.mono ?_
       rintro e w3 ⟨rfl, hb3⟩
       go_wp2_with fail
       go_roundw
       case rel => exact ⟨j + 1, by omega, hc, by first | trivial | go_num, hbl.trans (hb3.mono hsw)⟩
       case measure => simp [intOf]; omega
      ·have hr2 : d - (dB y + cumM y j) < mdOf y ((j : Int) + 1) := by
          have hs := cumM_succ y j
          by_cases h11 : j < 11
          ·have : ¬ dB y + cumM y (j + 1) ≤ d := fun h => hex ⟨h11, h⟩
           omega
          ·have e : j = 11 := by omega
           subst e
           have hf := cumM_full y
           have := hr.out
           have hs2 : cumM y 12 = cumM y 11 + mdOf y (((11 : Nat) : Int) + 1) := hs
           omega
       have hmb := mdOf_bounds y ((j : Int) + 1)
       have hcall9 := fun w' => dayN_first y w' hy1 hy2 j hj
       have HC9 := Lib.hid hcall9
       clear hcall9
       by_cases hj1 : j < 11
       ·have d0 : decide ((j : Int) + 1 < 12) = true := decide_eq_true (by omega)
        have d1 : decide (dB y + cumM y (j + 1) ≤ d) = false := decide_eq_false (fun h => hex ⟨hj1, h⟩)
        have hcall := dayN_first y wr hy1 hy2 (j + 1) (by omega)
        rw [show ((j + 1 : Nat) : Int) + 1 = (j : Int) + 1 + 1 by omega] at hcall
        have HC := Lib.hid hcall
        clear hcall hex
        go_wp2_with fail
        refine HC.out.mono ?_
        clear HC
        rintro e w3 ⟨rfl, hb3⟩
        have hbl3 := hbl.trans (hb3.mono hsw)
        clear hbl hb3 hsw
        go_wp2_with fail
        refine (HC9.out w3).mono ?_
        clear HC9
        rintro e w4 ⟨rfl, hb4⟩
        have hbl4 := hbl3.trans (hb4.mono hbl3.size)
        clear hbl3 hb4
        obtain ⟨r, hrr⟩ : ∃ r, r = d - (dB y + cumM y j) + 1 := ⟨_, rfl⟩
        obtain ⟨m, hm⟩ : ∃ m : Int, m = (j : Int) + 1 := ⟨_, rfl⟩
        have hr1 : 1 ≤ r := by omega
        have hr31 : r ≤ 31 := by omega
        go_wp2_with fail
        rw [← hrr, ← hm]
        have hm1 : 1 ≤ m := by omega
        have hm12 : m ≤ 12 := by omega
        clear hrr hm hr2 hmb hjd hge hcb
        obtain ⟨wD, hwD⟩ : ∃ wD, wD = w4.alloc (.cells #[.int .i64 (y / 1000), .int .i64 (y / 100 % 10), .int .i64 (y / 10 % 10), .int .i64 (y % 10), .int .i64 (-1), .int .i64 (m / 10), .int .i64 (m % 10), .int .i64 (-1), .int .i64 (r / 10), .int .i64 (r % 10)] 3) := ⟨_, rfl⟩
        have hcell : ∀ q, q < 10 → ∃ v : Int, -1 ≤ v ∧ v ≤ 9 ∧ wD.cell? ⟨w4.heap.size, q, none⟩ = some (.int .i64 v) := fun q hq => by
         rw [hwD, World.cell?_alloc_at _ _ _ _ rfl]
         match q, hq with
         | 0, _ => exact ⟨y / 1000, by omega, by omega, rfl⟩
         | 1, _ => exact ⟨y / 100 % 10, by omega, by omega, rfl⟩
         | 2, _ => exact ⟨y / 10 % 10, by omega, by omega, rfl⟩
         | 3, _ => exact ⟨y % 10, by omega, by omega, rfl⟩
         | 4, _ => exact ⟨-1, by omega, by omega, rfl⟩
         | 5, _ => exact ⟨m / 10, by omega, by omega, rfl⟩
         | 6, _ => exact ⟨m % 10, by omega, by omega, rfl⟩
         | 7, _ => exact ⟨-1, by omega, by omega, rfl⟩
         | 8, _ => exact ⟨r / 10, by omega, by omega, rfl⟩
         | 9, _ => exact ⟨r % 10, by omega, by omega, rfl⟩
        have HCE := Lib.hid hcell
        have hblD : Below w.heap.size w wD := by rw [hwD]; exact hbl4.alloc hbl4.size _
        have hzD : w4.heap.size < wD.heap.size := by rw [hwD]; simp
        rw [← hwD]
        clear hwD hbl4 hcell
        go_loopw [6, 8] (fun o i wr => ∃ (k : Nat) (s : ByteArray), k ≤ 10 ∧ s.size = k ∧ o = .string s ∧ i = .int .i64 (k : Int) ∧ Below wD.heap.size wD wr) (fun _ i _ => (10 - intOf i).toNat)
        case atStart => exact ⟨0, _, by omega, rfl, rfl, rfl, Below.refl _ _⟩
        case round =>
         obtain ⟨k, s, hk, hsk, rfl, rfl, hbw⟩ := hrel
         have hsx := hbw.size
         by_cases hlt : k < 10
         ·have hd2 : decide ((k : Int) < 10) = true := decide_eq_true (by omega)
          obtain ⟨v, hv1, hv2, hcv⟩ := HCE.out k hlt
          have hcr := (hbw.cell (p := ⟨w4.heap.size, k, none⟩) hzD).trans hcv
          by_cases hneg : v < 0
          ·have hd3 : decide (v < 0) = true := decide_eq_true hneg
           go_wp2_with fail
           go_roundw
           case rel => exact ⟨k + 1, _, by omega, by rw [ByteArray.size_append, hsk]; rfl, rfl, by first | go_num | trivial, hbw⟩
           case measure => simp [intOf]; omega
          ·have hd3 : decide (v < 0) = false := decide_eq_false hneg
           have hcc := conv_c wr (48 + v)
           go_wp2_with fail
           go_roundw
           case rel => exact ⟨k + 1, _, by omega, by rw [ByteArray.size_append, hsk, ByteArray.size_push]; rfl, rfl, by first | go_num | trivial, hbw.alloc hbw.size _⟩
           case measure => simp [intOf]; omega
         ·have hd2 : decide ((k : Int) < 10) = false := decide_eq_false (by omega)
          obtain rfl : k = 10 := by omega
          go_wp2_with fail
          go_ret
          exact ⟨⟨s, rfl, by unfold IsDay; rw [HY.out]; exact hsk⟩, hblD.trans (hbw.mono hblD.size)⟩
       ·have d0 : decide ((j : Int) + 1 < 12) = false := decide_eq_false (by omega)
        clear hex
        have hbl3 := hbl
        clear hbl hsw
        obtain ⟨w3, rfl⟩ : ∃ w3 : World, w3 = wr := ⟨_, rfl⟩
        go_wp2_with fail
        refine (HC9.out w3).mono ?_
        clear HC9
        rintro e w4 ⟨rfl, hb4⟩
        have hbl4 := hbl3.trans (hb4.mono hbl3.size)
        clear hbl3 hb4
        obtain ⟨r, hrr⟩ : ∃ r, r = d - (dB y + cumM y j) + 1 := ⟨_, rfl⟩
        obtain ⟨m, hm⟩ : ∃ m : Int, m = (j : Int) + 1 := ⟨_, rfl⟩
        have hr1 : 1 ≤ r := by omega
        have hr31 : r ≤ 31 := by omega
        go_wp2_with fail
        rw [← hrr, ← hm]
        have hm1 : 1 ≤ m := by omega
        have hm12 : m ≤ 12 := by omega
        clear hrr hm hr2 hmb hjd hge hcb
        obtain ⟨wD, hwD⟩ : ∃ wD, wD = w4.alloc (.cells #[.int .i64 (y / 1000), .int .i64 (y / 100 % 10), .int .i64 (y / 10 % 10), .int .i64 (y % 10), .int .i64 (-1), .int .i64 (m / 10), .int .i64 (m % 10), .int .i64 (-1), .int .i64 (r / 10), .int .i64 (r % 10)] 3) := ⟨_, rfl⟩
        have hcell : ∀ q, q < 10 → ∃ v : Int, -1 ≤ v ∧ v ≤ 9 ∧ wD.cell? ⟨w4.heap.size, q, none⟩ = some (.int .i64 v) := fun q hq => by
         rw [hwD, World.cell?_alloc_at _ _ _ _ rfl]
         match q, hq with
         | 0, _ => exact ⟨y / 1000, by omega, by omega, rfl⟩
         | 1, _ => exact ⟨y / 100 % 10, by omega, by omega, rfl⟩
         | 2, _ => exact ⟨y / 10 % 10, by omega, by omega, rfl⟩
         | 3, _ => exact ⟨y % 10, by omega, by omega, rfl⟩
         | 4, _ => exact ⟨-1, by omega, by omega, rfl⟩
         | 5, _ => exact ⟨m / 10, by omega, by omega, rfl⟩
         | 6, _ => exact ⟨m % 10, by omega, by omega, rfl⟩
         | 7, _ => exact ⟨-1, by omega, by omega, rfl⟩
         | 8, _ => exact ⟨r / 10, by omega, by omega, rfl⟩
         | 9, _ => exact ⟨r % 10, by omega, by omega, rfl⟩
        have HCE := Lib.hid hcell
        have hblD : Below w.heap.size w wD := by rw [hwD]; exact hbl4.alloc hbl4.size _
        have hzD : w4.heap.size < wD.heap.size := by rw [hwD]; simp
        rw [← hwD]
        clear hwD hbl4 hcell
        go_loopw [6, 8] (fun o i wr => ∃ (k : Nat) (s : ByteArray), k ≤ 10 ∧ s.size = k ∧ o = .string s ∧ i = .int .i64 (k : Int) ∧ Below wD.heap.size wD wr) (fun _ i _ => (10 - intOf i).toNat)
        case atStart => exact ⟨0, _, by omega, rfl, rfl, rfl, Below.refl _ _⟩
        case round =>
         obtain ⟨k, s, hk, hsk, rfl, rfl, hbw⟩ := hrel
         have hsx := hbw.size
         by_cases hlt : k < 10
         ·have hd2 : decide ((k : Int) < 10) = true := decide_eq_true (by omega)
          obtain ⟨v, hv1, hv2, hcv⟩ := HCE.out k hlt
          have hcr := (hbw.cell (p := ⟨w4.heap.size, k, none⟩) hzD).trans hcv
          by_cases hneg : v < 0
          ·have hd3 : decide (v < 0) = true := decide_eq_true hneg
           go_wp2_with fail
           go_roundw
           case rel => exact ⟨k + 1, _, by omega, by rw [ByteArray.size_append, hsk]; rfl, rfl, by first | go_num | trivial, hbw⟩
           case measure => simp [intOf]; omega
          ·have hd3 : decide (v < 0) = false := decide_eq_false hneg
           have hcc := conv_c wr (48 + v)
           go_wp2_with fail
           go_roundw
           case rel => exact ⟨k + 1, _, by omega, by rw [ByteArray.size_append, hsk, ByteArray.size_push]; rfl, rfl, by first | go_num | trivial, hbw.alloc hbw.size _⟩
           case measure => simp [intOf]; omega
         ·have hd2 : decide ((k : Int) < 10) = false := decide_eq_false (by omega)
          obtain rfl : k = 10 := by omega
          go_wp2_with fail
          go_ret
          exact ⟨⟨s, rfl, by unfold IsDay; rw [HY.out]; exact hsk⟩, hblD.trans (hbw.mono hblD.size)⟩
    ·have d0 : decide (y < 4000) = false := decide_eq_false hy4
     clear hex
     have hbl2 := hbl
     clear hbl hsw
     obtain ⟨w2, rfl⟩ : ∃ w2 : World, w2 = wr := ⟨_, rfl⟩
     go_wp2_with fail
     clear d0 hy4
     go_loopw [4] (fun i wr => ∃ j : Nat, j ≤ 11 ∧ dB y + cumM y j ≤ d ∧ i = .int .i64 ((j : Int) + 1) ∧ Below w.heap.size w wr) (fun i _ => (13 - intOf i).toNat)
     case atStart => exact ⟨0, by omega, by simp [cumM]; exact hyd, by simp, hbl2⟩
     case round =>
      clear hbl2
      obtain ⟨j, hj, hjd, rfl, hbl⟩ := hrel
      have hsw := hbl.size
      have hge := dB_ge hy1
      have hcb := cumM_bounds y j
      by_cases hex : j < 11 ∧ dB y + cumM y (j + 1) ≤ d
      ·obtain ⟨hj1, hc⟩ := hex
       have d0 : decide ((j : Int) + 1 < 12) = true := decide_eq_true (by omega)
       have d1 : decide (dB y + cumM y (j + 1) ≤ d) = true := decide_eq_true hc
       have hcall := dayN_first y wr hy1 hy2 (j + 1) (by omega)
       rw [show ((j + 1 : Nat) : Int) + 1 = (j : Int) + 1 + 1 by omega] at hcall
       have HC := Lib.hid hcall
       clear hcall
       go_wp2_with fail
       refine HC.out.mono ?_
       rintro e w3 ⟨rfl, hb3⟩
       go_wp2_with fail
       go_roundw
       case rel => exact ⟨j + 1, by omega, hc, by first | trivial | go_num, hbl.trans (hb3.mono hsw)⟩
       case measure => simp [intOf]; omega
      ·have hr2 : d - (dB y + cumM y j) < mdOf y ((j : Int) + 1) := by
          have hs := cumM_succ y j
          by_cases h11 : j < 11
          ·have : ¬ dB y + cumM y (j + 1) ≤ d := fun h => hex ⟨h11, h⟩
           omega
          ·have e : j = 11 := by omega
           subst e
           have hf := cumM_full y
           have := hr.out
           have hs2 : cumM y 12 = cumM y 11 + mdOf y (((11 : Nat) : Int) + 1) := hs
           omega
       have hmb := mdOf_bounds y ((j : Int) + 1)
       have hcall9 := fun w' => dayN_first y w' hy1 hy2 j hj
       have HC9 := Lib.hid hcall9
       clear hcall9
       by_cases hj1 : j < 11
       ·have d0 : decide ((j : Int) + 1 < 12) = true := decide_eq_true (by omega)
        have d1 : decide (dB y + cumM y (j + 1) ≤ d) = false := decide_eq_false (fun h => hex ⟨hj1, h⟩)
        have hcall := dayN_first y wr hy1 hy2 (j + 1) (by omega)
        rw [show ((j + 1 : Nat) : Int) + 1 = (j : Int) + 1 + 1 by omega] at hcall
        have HC := Lib.hid hcall
        clear hcall hex
        go_wp2_with fail
        refine HC.out.mono ?_
        clear HC
        rintro e w3 ⟨rfl, hb3⟩
        have hbl3 := hbl.trans (hb3.mono hsw)
        clear hbl hb3 hsw
        go_wp2_with fail
        refine (HC9.out w3).mono ?_
        clear HC9
        rintro e w4 ⟨rfl, hb4⟩
        have hbl4 := hbl3.trans (hb4.mono hbl3.size)
        clear hbl3 hb4
        obtain ⟨r, hrr⟩ : ∃ r, r = d - (dB y + cumM y j) + 1 := ⟨_, rfl⟩
        obtain ⟨m, hm⟩ : ∃ m : Int, m = (j : Int) + 1 := ⟨_, rfl⟩
        have hr1 : 1 ≤ r := by omega
        have hr31 : r ≤ 31 := by omega
        go_wp2_with fail
        rw [← hrr, ← hm]
        have hm1 : 1 ≤ m := by omega
        have hm12 : m ≤ 12 := by omega
        clear hrr hm hr2 hmb hjd hge hcb
        obtain ⟨wD, hwD⟩ : ∃ wD, wD = w4.alloc (.cells #[.int .i64 (y / 1000), .int .i64 (y / 100 % 10), .int .i64 (y / 10 % 10), .int .i64 (y % 10), .int .i64 (-1), .int .i64 (m / 10), .int .i64 (m % 10), .int .i64 (-1), .int .i64 (r / 10), .int .i64 (r % 10)] 3) := ⟨_, rfl⟩
        have hcell : ∀ q, q < 10 → ∃ v : Int, -1 ≤ v ∧ v ≤ 9 ∧ wD.cell? ⟨w4.heap.size, q, none⟩ = some (.int .i64 v) := fun q hq => by
         rw [hwD, World.cell?_alloc_at _ _ _ _ rfl]
         match q, hq with
         | 0, _ => exact ⟨y / 1000, by omega, by omega, rfl⟩
         | 1, _ => exact ⟨y / 100 % 10, by omega, by omega, rfl⟩
         | 2, _ => exact ⟨y / 10 % 10, by omega, by omega, rfl⟩
         | 3, _ => exact ⟨y % 10, by omega, by omega, rfl⟩
         | 4, _ => exact ⟨-1, by omega, by omega, rfl⟩
         | 5, _ => exact ⟨m / 10, by omega, by omega, rfl⟩
         | 6, _ => exact ⟨m % 10, by omega, by omega, rfl⟩
         | 7, _ => exact ⟨-1, by omega, by omega, rfl⟩
         | 8, _ => exact ⟨r / 10, by omega, by omega, rfl⟩
         | 9, _ => exact ⟨r % 10, by omega, by omega, rfl⟩
        have HCE := Lib.hid hcell
        have hblD : Below w.heap.size w wD := by rw [hwD]; exact hbl4.alloc hbl4.size _
        have hzD : w4.heap.size < wD.heap.size := by rw [hwD]; simp
        rw [← hwD]
        clear hwD hbl4 hcell
        go_loopw [6, 8] (fun o i wr => ∃ (k : Nat) (s : ByteArray), k ≤ 10 ∧ s.size = k ∧ o = .string s ∧ i = .int .i64 (k : Int) ∧ Below wD.heap.size wD wr) (fun _ i _ => (10 - intOf i).toNat)
        case atStart => exact ⟨0, _, by omega, rfl, rfl, rfl, Below.refl _ _⟩
        case round =>
         obtain ⟨k, s, hk, hsk, rfl, rfl, hbw⟩ := hrel
         have hsx := hbw.size
         by_cases hlt : k < 10
         ·have hd2 : decide ((k : Int) < 10) = true := decide_eq_true (by omega)
          obtain ⟨v, hv1, hv2, hcv⟩ := HCE.out k hlt
          have hcr := (hbw.cell (p := ⟨w4.heap.size, k, none⟩) hzD).trans hcv
          by_cases hneg : v < 0
          ·have hd3 : decide (v < 0) = true := decide_eq_true hneg
           go_wp2_with fail
           go_roundw
           case rel => exact ⟨k + 1, _, by omega, by rw [ByteArray.size_append, hsk]; rfl, rfl, by first | go_num | trivial, hbw⟩
           case measure => simp [intOf]; omega
          ·have hd3 : decide (v < 0) = false := decide_eq_false hneg
           have hcc := conv_c wr (48 + v)
           go_wp2_with fail
           go_roundw
           case rel => exact ⟨k + 1, _, by omega, by rw [ByteArray.size_append, hsk, ByteArray.size_push]; rfl, rfl, by first | go_num | trivial, hbw.alloc hbw.size _⟩
           case measure => simp [intOf]; omega
         ·have hd2 : decide ((k : Int) < 10) = false := decide_eq_false (by omega)
          obtain rfl : k = 10 := by omega
          go_wp2_with fail
          go_ret
          exact ⟨⟨s, rfl, by unfold IsDay; rw [HY.out]; exact hsk⟩, hblD.trans (hbw.mono hblD.size)⟩
       ·have d0 : decide ((j : Int) + 1 < 12) = false := decide_eq_false (by omega)
        clear hex
        have hbl3 := hbl
        clear hbl hsw
        obtain ⟨w3, rfl⟩ : ∃ w3 : World, w3 = wr := ⟨_, rfl⟩
        go_wp2_with fail
        refine (HC9.out w3).mono ?_
        clear HC9
        rintro e w4 ⟨rfl, hb4⟩
        have hbl4 := hbl3.trans (hb4.mono hbl3.size)
        clear hbl3 hb4
        obtain ⟨r, hrr⟩ : ∃ r, r = d - (dB y + cumM y j) + 1 := ⟨_, rfl⟩
        obtain ⟨m, hm⟩ : ∃ m : Int, m = (j : Int) + 1 := ⟨_, rfl⟩
        have hr1 : 1 ≤ r := by omega
        have hr31 : r ≤ 31 := by omega
        go_wp2_with fail
        rw [← hrr, ← hm]
        have hm1 : 1 ≤ m := by omega
        have hm12 : m ≤ 12 := by omega
        clear hrr hm hr2 hmb hjd hge hcb
        obtain ⟨wD, hwD⟩ : ∃ wD, wD = w4.alloc (.cells #[.int .i64 (y / 1000), .int .i64 (y / 100 % 10), .int .i64 (y / 10 % 10), .int .i64 (y % 10), .int .i64 (-1), .int .i64 (m / 10), .int .i64 (m % 10), .int .i64 (-1), .int .i64 (r / 10), .int .i64 (r % 10)] 3) := ⟨_, rfl⟩
        have hcell : ∀ q, q < 10 → ∃ v : Int, -1 ≤ v ∧ v ≤ 9 ∧ wD.cell? ⟨w4.heap.size, q, none⟩ = some (.int .i64 v) := fun q hq => by
         rw [hwD, World.cell?_alloc_at _ _ _ _ rfl]
         match q, hq with
         | 0, _ => exact ⟨y / 1000, by omega, by omega, rfl⟩
         | 1, _ => exact ⟨y / 100 % 10, by omega, by omega, rfl⟩
         | 2, _ => exact ⟨y / 10 % 10, by omega, by omega, rfl⟩
         | 3, _ => exact ⟨y % 10, by omega, by omega, rfl⟩
         | 4, _ => exact ⟨-1, by omega, by omega, rfl⟩
         | 5, _ => exact ⟨m / 10, by omega, by omega, rfl⟩
         | 6, _ => exact ⟨m % 10, by omega, by omega, rfl⟩
         | 7, _ => exact ⟨-1, by omega, by omega, rfl⟩
         | 8, _ => exact ⟨r / 10, by omega, by omega, rfl⟩
         | 9, _ => exact ⟨r % 10, by omega, by omega, rfl⟩
        have HCE := Lib.hid hcell
        have hblD : Below w.heap.size w wD := by rw [hwD]; exact hbl4.alloc hbl4.size _
        have hzD : w4.heap.size < wD.heap.size := by rw [hwD]; simp
        rw [← hwD]
        clear hwD hbl4 hcell
        go_loopw [6, 8] (fun o i wr => ∃ (k : Nat) (s : ByteArray), k ≤ 10 ∧ s.size = k ∧ o = .string s ∧ i = .int .i64 (k : Int) ∧ Below wD.heap.size wD wr) (fun _ i _ => (10 - intOf i).toNat)
        case atStart => exact ⟨0, _, by omega, rfl, rfl, rfl, Below.refl _ _⟩
        case round =>
         obtain ⟨k, s, hk, hsk, rfl, rfl, hbw⟩ := hrel
         have hsx := hbw.size
         by_cases hlt : k < 10
         ·have hd2 : decide ((k : Int) < 10) = true := decide_eq_true (by omega)
          obtain ⟨v, hv1, hv2, hcv⟩ := HCE.out k hlt
          have hcr := (hbw.cell (p := ⟨w4.heap.size, k, none⟩) hzD).trans hcv
          by_cases hneg : v < 0
          ·have hd3 : decide (v < 0) = true := decide_eq_true hneg
           go_wp2_with fail
           go_roundw
           case rel => exact ⟨k + 1, _, by omega, by rw [ByteArray.size_append, hsk]; rfl, rfl, by first | go_num | trivial, hbw⟩
           case measure => simp [intOf]; omega
          ·have hd3 : decide (v < 0) = false := decide_eq_false hneg
           have hcc := conv_c wr (48 + v)
           go_wp2_with fail
           go_roundw
           case rel => exact ⟨k + 1, _, by omega, by rw [ByteArray.size_append, hsk, ByteArray.size_push]; rfl, rfl, by first | go_num | trivial, hbw.alloc hbw.size _⟩
           case measure => simp [intOf]; omega
         ·have hd2 : decide ((k : Int) < 10) = false := decide_eq_false (by omega)
          obtain rfl : k = 10 := by omega
          go_wp2_with fail
          go_ret
          exact ⟨⟨s, rfl, by unfold IsDay; rw [HY.out]; exact hsk⟩, hblD.trans (hbw.mono hblD.size)⟩
 ·have HI := Lib.hid (inB_false (n := d) (lo := 0) (hi := 1460969) (by omega))
  have HN := Lib.hid (dayB_no (d := d) (by omega))
  clear h0
  go_enter Tryz.func123, Tryz.ntmps123
  go_wp2_with fail
  refine (dayN_last w).mono ?_
  rintro e w1 ⟨rfl, hb1⟩
  go_wp2_with fail
  refine (l1In_any _ _ _ w1).mono ?_
  rintro e w' ⟨rfl, rfl⟩
  rw [HI.out]
  go_wp2_with fail
  go_ret
  exact ⟨⟨_, rfl, by unfold IsDay; rw [HN.out]; rfl⟩, hb1⟩
end Go.Proofs.YtfnmlffpnmmcdaaGreatDoor
namespace Go.Proofs.YtfnmlffpnmmcdaaGreatDoor
set_option maxRecDepth 100000
open Go.RowKit
def mdA (y m : Int) : Int := if (1 ≤ y ∧ y ≤ 4000) ∧ 1 ≤ m ∧ m ≤ 12 then mdOf y m else -1
theorem mdA_yes {y m : Int} (h1 : 1 ≤ y) (h2 : y ≤ 4000) (h3 : 1 ≤ m) (h4 : m ≤ 12) : mdA y m = mdOf y m := if_pos ⟨⟨h1, h2⟩, h3, h4⟩
theorem mdA_no {y m : Int} (h : ¬ ((1 ≤ y ∧ y ≤ 4000) ∧ 1 ≤ m ∧ m ≤ 12)) : mdA y m = -1 := if_neg h
def Dy (y m d : Int) : Prop := ((1 ≤ y ∧ y ≤ 4000) ∧ 1 ≤ m ∧ m ≤ 12) ∧ 1 ≤ d ∧ d ≤ mdOf y m
instance (y m d : Int) : Decidable (Dy y m d) := inferInstanceAs (Decidable (_ ∧ _))
def dnOf (y m d : Int) : Int := if Dy y m d then dB y + d - 1 + cumM y (m.toNat - 1) else -1
theorem dn_yes {y m d : Int} (h : Dy y m d) : dnOf y m d = dB y + d - 1 + cumM y (m.toNat - 1) := if_pos h
theorem dn_no {y m d : Int} (h : ¬ Dy y m d) : dnOf y m d = -1 := if_neg h
theorem dB_mono {y z : Int} (h : y ≤ z) : dB y ≤ dB z := by unfold dB; omega
theorem cumM_mono (y : Int) {n m : Nat} (h : n ≤ m) : cumM y n ≤ cumM y m := by
 induction m with
 | zero => obtain rfl : n = 0 := by omega
           exact Int.le_refl _
 | succ m ih =>
  rcases Nat.lt_succ_iff_lt_or_eq.1 (Nat.lt_succ_of_le h) with h1 | rfl
  ·have := ih (by omega); have := cumM_succ y m; have := mdOf_bounds y (m + 1); omega
  ·exact Int.le_refl _
theorem dn_in {y m d : Int} (h : Dy y m d) : dB y ≤ dnOf y m d ∧ dnOf y m d < dB (y + 1) := by
 rw [dn_yes h]
 obtain ⟨⟨hy, h3, h4⟩, h5, h6⟩ := h
 obtain ⟨n, hn⟩ : ∃ n : Nat, m = (n : Int) + 1 := ⟨(m - 1).toNat, by omega⟩
 have e : m.toNat - 1 = n := by omega
 rw [e]
 rw [hn] at h6
 have h1 := cumM_succ y n
 have h2 := cumM_mono y (show n + 1 ≤ 12 by omega)
 have h0 := cumM_bounds y n
 have hf := cumM_full y
 have hs := dB_succ (y := y)
 omega
theorem dn_pos {y m d : Int} (h : Dy y m d) : 0 ≤ dnOf y m d ∧ dnOf y m d < 1460970 := by
 have h1 := dn_in h
 have h2 : dB (y + 1) ≤ dB 4001 := dB_mono (by have := h.1.1; omega)
 have h3 := dB_ge h.1.1.1
 rw [dB_last] at h2
 have := h.1.1
 omega
theorem dn_inj {y m d y' m' d' : Int} (h : Dy y m d) (h' : Dy y' m' d') (e : dnOf y m d = dnOf y' m' d') : y = y' ∧ m = m' ∧ d = d' := by
 have i1 := dn_in h
 have i2 := dn_in h'
 have hy : y = y' := by
  rcases Int.lt_trichotomy y y' with q | q | q
  ·have := dB_mono (show y + 1 ≤ y' by omega); omega
  ·exact q
  ·have := dB_mono (show y' + 1 ≤ y by omega); omega
 subst hy
 rw [dn_yes h, dn_yes h'] at e
 obtain ⟨⟨hy, h3, h4⟩, h5, h6⟩ := h
 obtain ⟨⟨_, h3', h4'⟩, h5', h6'⟩ := h'
 obtain ⟨n, hn⟩ : ∃ n : Nat, m = (n : Int) + 1 := ⟨(m - 1).toNat, by omega⟩
 obtain ⟨n', hn'⟩ : ∃ n' : Nat, m' = (n' : Int) + 1 := ⟨(m' - 1).toNat, by omega⟩
 rw [show m.toNat - 1 = n by omega, show m'.toNat - 1 = n' by omega] at e
 rw [hn] at h6
 rw [hn'] at h6'
 have s1 := cumM_succ y n
 have s2 := cumM_succ y n'
 have hnn : n = n' := by
  rcases Nat.lt_trichotomy n n' with q | q | q
  ·have := cumM_mono y (show n + 1 ≤ n' by omega); omega
  ·exact q
  ·have := cumM_mono y (show n' + 1 ≤ n by omega); omega
 subst hnn
 exact ⟨rfl, by omega, by omega⟩
theorem padS_bb {n k j : Nat} (hj : j < k) : bb (padS n k) j = 48 + ((n / 10 ^ (k - 1 - j) % 10 : Nat) : Int) := by
 have key : ∀ l : List Int, (∀ x, x ∈ l → 0 ≤ x ∧ x ≤ 255) → ∀ s : ByteArray, ∀ i, i < l.length → bb (l.foldl (fun r x => r.push (UInt8.ofNat x.toNat)) s) (s.size + i) = l[i]?.getD 0 := by
  intro l
  induction l with
  | nil => intro _ s i hi; simp at hi
  | cons x l ih =>
   intro hx s i hi
   rw [List.foldl_cons]
   cases i with
   | zero =>
    have hb := hx x (by simp)
    have e1 : ∀ (l : List Int) (u : ByteArray) (p : Nat), p < u.size → bb (l.foldl (fun r x => r.push (UInt8.ofNat x.toNat)) u) p = bb u p := by
     intro l
     induction l with
     | nil => intro u p _; rfl
     | cons y l ih2 =>
      intro u p hp
      rw [List.foldl_cons, ih2 _ _ (by rw [ByteArray.size_push]; omega), push_one, bb_left hp]
    rw [e1 _ _ _ (by rw [ByteArray.size_push]; omega), push_one, Nat.add_zero]
    have := bb_right s { data := #[UInt8.ofNat x.toNat] } 0
    rw [Nat.add_zero] at this
    rw [this]
    show (((UInt8.ofNat x.toNat).toNat : Nat) : Int) = x
    rw [UInt8.toNat_ofNat']; omega
   | succ i =>
    have := ih (fun z hz => hx z (by simp [hz])) (s.push (UInt8.ofNat x.toNat)) i (by simp at hi; omega)
    rw [ByteArray.size_push] at this
    rw [show s.size + (i + 1) = s.size + 1 + i by omega, this]
    simp
 have hk := key (pdL n k) (fun x hx => by
  unfold pdL at hx
  obtain ⟨q, _, rfl⟩ := List.mem_map.1 hx
  unfold dgD; omega) ByteArray.empty j (by simp [pdL]; exact hj)
 rw [show ByteArray.empty.size + j = j by simp] at hk
 refine Eq.trans hk ?_
 unfold pdL
 rw [List.getElem?_map, List.getElem?_range hj]
 rfl
def dot : ByteArray := { data := #[46] }
def dtx (y m d : Nat) : ByteArray := padS y 4 ++ dot ++ padS m 2 ++ dot ++ padS d 2
theorem dtx_size (y m d : Nat) : (dtx y m d).size = 10 := by
 unfold dtx
 simp only [ByteArray.size_append, padS_size]
 rfl
theorem dtx_bb {y m d j : Nat} (hj : j < 10) : bb (dtx y m d) j = if j < 4 then 48 + ((y / 10 ^ (3 - j) % 10 : Nat) : Int) else if j = 4 then 46 else if j < 7 then 48 + ((m / 10 ^ (6 - j) % 10 : Nat) : Int) else if j = 7 then 46 else 48 + ((d / 10 ^ (9 - j) % 10 : Nat) : Int) := by
 have hd : dot.size = 1 := rfl
 unfold dtx
 simp only [bb_app, ByteArray.size_append, padS_size, hd]
 rcases (by omega : j = 0 ∨ j = 1 ∨ j = 2 ∨ j = 3 ∨ j = 4 ∨ j = 5 ∨ j = 6 ∨ j = 7 ∨ j = 8 ∨ j = 9) with rfl | rfl | rfl | rfl | rfl | rfl | rfl | rfl | rfl | rfl <;> simp [padS_bb] <;> rfl
def Cn (s : ByteArray) : Prop := s.size = 10 ∧ bb s 4 = 46 ∧ bb s 7 = 46 ∧ ∀ j, j < 10 → j ≠ 4 → j ≠ 7 → 48 ≤ bb s j ∧ bb s j ≤ 57
instance (s : ByteArray) : Decidable (Cn s) := inferInstanceAs (Decidable (_ ∧ _ ∧ _ ∧ ∀ j, j < 10 → j ≠ 4 → j ≠ 7 → 48 ≤ bb s j ∧ bb s j ≤ 57))
def dgt (s : ByteArray) (j : Nat) : Nat := (bb s j - 48).toNat
def pY (s : ByteArray) : Nat := ((dgt s 0 * 10 + dgt s 1) * 10 + dgt s 2) * 10 + dgt s 3
def pM (s : ByteArray) : Nat := dgt s 5 * 10 + dgt s 6
def pD (s : ByteArray) : Nat := dgt s 8 * 10 + dgt s 9
theorem cn_dg {s : ByteArray} (h : Cn s) {j : Nat} (hj : j < 10) (h4 : j ≠ 4) (h7 : j ≠ 7) : bb s j = 48 + (dgt s j : Int) ∧ dgt s j ≤ 9 := by
 have := h.2.2.2 j hj h4 h7
 unfold dgt; omega
theorem cn_dtx {s : ByteArray} (h : Cn s) : dtx (pY s) (pM s) (pD s) = s := by
 apply ba_bb
 ·rw [dtx_size, h.1]
 ·intro j hj
  rw [dtx_size] at hj
  rw [dtx_bb hj]
  have d0 := cn_dg h (j := 0) (by omega) (by omega) (by omega)
  have d1 := cn_dg h (j := 1) (by omega) (by omega) (by omega)
  have d2 := cn_dg h (j := 2) (by omega) (by omega) (by omega)
  have d3 := cn_dg h (j := 3) (by omega) (by omega) (by omega)
  have d5 := cn_dg h (j := 5) (by omega) (by omega) (by omega)
  have d6 := cn_dg h (j := 6) (by omega) (by omega) (by omega)
  have d8 := cn_dg h (j := 8) (by omega) (by omega) (by omega)
  have d9 := cn_dg h (j := 9) (by omega) (by omega) (by omega)
  have d4 := h.2.1
  have d7 := h.2.2.1
  unfold pY pM pD
  rcases (by omega : j = 0 ∨ j = 1 ∨ j = 2 ∨ j = 3 ∨ j = 4 ∨ j = 5 ∨ j = 6 ∨ j = 7 ∨ j = 8 ∨ j = 9) with rfl | rfl | rfl | rfl | rfl | rfl | rfl | rfl | rfl | rfl <;> simp <;> omega
theorem dtx_cn (y m d : Nat) : Cn (dtx y m d) := by
 refine ⟨dtx_size y m d, by rw [dtx_bb (by omega)]; rfl, by rw [dtx_bb (by omega)]; rfl, fun j hj h4 h7 => ?_⟩
 rw [dtx_bb hj]
 (repeat' split) <;> omega
def rdD (s : ByteArray) : Int := if Cn s then dnOf (pY s) (pM s) (pD s) else -1
theorem rdD_yes {s : ByteArray} (h : Cn s) : rdD s = dnOf (pY s) (pM s) (pD s) := if_pos h
theorem rdD_no {s : ByteArray} (h : ¬ Cn s) : rdD s = -1 := if_neg h
end Go.Proofs.YtfnmlffpnmmcdaaGreatDoor
namespace Go.Proofs.YtfnmlffpnmmcdaaGreatDoor
set_option maxRecDepth 100000
open Go.RowKit
def DayT (d : Int) (s : ByteArray) : Prop := if dayB d = true then ∃ y m r : Nat, Dy y m r ∧ dnOf y m r = d ∧ s = dtx y m r else s = { data := #[] }
theorem dayT_no {d : Int} (h : dayB d = false) : DayT d { data := #[] } := by unfold DayT; rw [if_neg (by rw [h]; simp)]
theorem dayT_yes {d y m r : Int} {s : ByteArray} (hy : 0 ≤ y) (hm : 0 ≤ m) (hr : 0 ≤ r) (h : Dy y m r ∧ dnOf y m r = d) (hs : s = dtx y.toNat m.toNat r.toNat) : DayT d s := by
 have hp := dn_pos h.1
 unfold DayT
 rw [if_pos (dayB_yes (by rw [← h.2]; exact hp.1) (by rw [← h.2]; exact hp.2))]
 refine ⟨y.toNat, m.toNat, r.toNat, ?_, ?_, hs⟩
 ·rw [Int.toNat_of_nonneg hy, Int.toNat_of_nonneg hm, Int.toNat_of_nonneg hr]; exact h.1
 ·rw [Int.toNat_of_nonneg hy, Int.toNat_of_nonneg hm, Int.toNat_of_nonneg hr]; exact h.2
theorem dtx_snoc {s t : ByteArray} {k : Nat} {c : Int} (hs : s = t.extract 0 k) (hk : k < t.size) (hb : bb t k = c) (h0 : 0 ≤ c) (h1 : c ≤ 255) : s ++ { data := #[UInt8.ofNat c.toNat] } = t.extract 0 (k + 1) := by
 have : t.extract k (k + 1) = { data := #[UInt8.ofNat c.toNat] } := ext_byte hk (by rw [UInt8.toNat_ofNat']; omega)
 rw [hs, ← this, ext_cat (Nat.zero_le _) (by omega) hk]
theorem dy_of {d y m r : Int} {j : Nat} (hy1 : 1 ≤ y) (hy2 : y ≤ 4000) (hj : j ≤ 11) (hr1 : 1 ≤ r) (hrr : r = d - (dB y + cumM y j) + 1) (hm : m = (j : Int) + 1) (hr2 : d - (dB y + cumM y j) < mdOf y ((j : Int) + 1)) : Dy y m r ∧ dnOf y m r = d := by
 have hD : Dy y m r := ⟨⟨⟨hy1, hy2⟩, by omega, by omega⟩, hr1, by rw [hm]; omega⟩
 refine ⟨hD, ?_⟩
 rw [dn_yes hD, show m.toNat - 1 = j by omega]
 omega
theorem dtx_q0 {y m r : Int} (hy : 0 ≤ y ∧ y ≤ 4000) (_hm : 0 ≤ m ∧ m ≤ 12) (_hr : 0 ≤ r ∧ r ≤ 31) : bb (dtx y.toNat m.toNat r.toNat) 0 = (if y / 1000 < 0 then 46 else 48 + y / 1000) := by
 rw [dtx_bb (by omega), if_neg (show ¬ y / 1000 < 0 by omega)]
 simp
 omega
theorem dtx_q1 {y m r : Int} (hy : 0 ≤ y ∧ y ≤ 4000) (_hm : 0 ≤ m ∧ m ≤ 12) (_hr : 0 ≤ r ∧ r ≤ 31) : bb (dtx y.toNat m.toNat r.toNat) 1 = (if y / 100 % 10 < 0 then 46 else 48 + y / 100 % 10) := by
 rw [dtx_bb (by omega), if_neg (show ¬ y / 100 % 10 < 0 by omega)]
 simp
 omega
theorem dtx_q2 {y m r : Int} (hy : 0 ≤ y ∧ y ≤ 4000) (_hm : 0 ≤ m ∧ m ≤ 12) (_hr : 0 ≤ r ∧ r ≤ 31) : bb (dtx y.toNat m.toNat r.toNat) 2 = (if y / 10 % 10 < 0 then 46 else 48 + y / 10 % 10) := by
 rw [dtx_bb (by omega), if_neg (show ¬ y / 10 % 10 < 0 by omega)]
 simp
 omega
theorem dtx_q3 {y m r : Int} (hy : 0 ≤ y ∧ y ≤ 4000) (_hm : 0 ≤ m ∧ m ≤ 12) (_hr : 0 ≤ r ∧ r ≤ 31) : bb (dtx y.toNat m.toNat r.toNat) 3 = (if y % 10 < 0 then 46 else 48 + y % 10) := by
 rw [dtx_bb (by omega), if_neg (show ¬ y % 10 < 0 by omega)]
 simp
 omega
theorem dtx_q4 {y m r : Int} (_ : 0 ≤ y ∧ y ≤ 4000) (_ : 0 ≤ m ∧ m ≤ 12) (_ : 0 ≤ r ∧ r ≤ 31) : bb (dtx y.toNat m.toNat r.toNat) 4 = (if (-1 : Int) < 0 then 46 else 48 + (-1)) := by
 rw [dtx_bb (by omega)]; rfl
theorem dtx_q5 {y m r : Int} (_hy : 0 ≤ y ∧ y ≤ 4000) (hm : 0 ≤ m ∧ m ≤ 12) (_hr : 0 ≤ r ∧ r ≤ 31) : bb (dtx y.toNat m.toNat r.toNat) 5 = (if m / 10 < 0 then 46 else 48 + m / 10) := by
 rw [dtx_bb (by omega), if_neg (show ¬ m / 10 < 0 by omega)]
 simp
 omega
theorem dtx_q6 {y m r : Int} (_hy : 0 ≤ y ∧ y ≤ 4000) (hm : 0 ≤ m ∧ m ≤ 12) (_hr : 0 ≤ r ∧ r ≤ 31) : bb (dtx y.toNat m.toNat r.toNat) 6 = (if m % 10 < 0 then 46 else 48 + m % 10) := by
 rw [dtx_bb (by omega), if_neg (show ¬ m % 10 < 0 by omega)]
 simp
 omega
theorem dtx_q7 {y m r : Int} (_ : 0 ≤ y ∧ y ≤ 4000) (_ : 0 ≤ m ∧ m ≤ 12) (_ : 0 ≤ r ∧ r ≤ 31) : bb (dtx y.toNat m.toNat r.toNat) 7 = (if (-1 : Int) < 0 then 46 else 48 + (-1)) := by
 rw [dtx_bb (by omega)]; rfl
theorem dtx_q8 {y m r : Int} (_hy : 0 ≤ y ∧ y ≤ 4000) (_hm : 0 ≤ m ∧ m ≤ 12) (hr : 0 ≤ r ∧ r ≤ 31) : bb (dtx y.toNat m.toNat r.toNat) 8 = (if r / 10 < 0 then 46 else 48 + r / 10) := by
 rw [dtx_bb (by omega), if_neg (show ¬ r / 10 < 0 by omega)]
 simp
 omega
theorem dtx_q9 {y m r : Int} (_hy : 0 ≤ y ∧ y ≤ 4000) (_hm : 0 ≤ m ∧ m ≤ 12) (hr : 0 ≤ r ∧ r ≤ 31) : bb (dtx y.toNat m.toNat r.toNat) 9 = (if r % 10 < 0 then 46 else 48 + r % 10) := by
 rw [dtx_bb (by omega), if_neg (show ¬ r % 10 < 0 by omega)]
 simp
 omega
set_option maxHeartbeats 1600000 in
theorem specDateText_t (d : Int) (w : World) : Calls Tryz.prog 123 #[.int .i64 d] w fun e w' => (∃ s : ByteArray, e = .returned (.string s) ∧ DayT d s) ∧ Below w.heap.size w w' := by
 have HLA := Lib.hid dB_last
 by_cases h0 : 0 ≤ d ∧ d < 1460970
 ·have HI := Lib.hid (inB_true (n := d) (lo := 0) (hi := 1460969) h0.1 (by omega))
  have HY := Lib.hid (dayB_yes h0.1 h0.2)
  obtain ⟨h00, h01⟩ := h0
  go_enter Tryz.func123, Tryz.ntmps123
  go_wp2_with fail
  refine (dayN_last w).mono ?_
  rintro e w1 ⟨rfl, hb1⟩
  go_wp2_with fail
  refine (l1In_any _ _ _ w1).mono ?_
  rintro e w' ⟨rfl, rfl⟩
  rw [HI.out]
  go_wp2_with fail
  go_loopw [3] (fun i wr => ∃ y : Int, 1 ≤ y ∧ y ≤ 4000 ∧ dB y ≤ d ∧ i = .int .i64 y ∧ Below w.heap.size w wr) (fun i _ => (4001 - intOf i).toNat)
  case atStart => exact ⟨d / 366 + 1, by omega, by omega, by have := dB_le (y := d / 366 + 1) (by omega); omega, rfl, hb1⟩
  case round =>
   clear hb1
   obtain ⟨y, hy1, hy2, hyd, rfl, hbl⟩ := hrel
   have hsw := hbl.size
   by_cases hex : y < 4000 ∧ dB (y + 1) ≤ d
   ·obtain ⟨hy4, hc⟩ := hex
    have d0 : decide (y < 4000) = true := decide_eq_true hy4
    have d1 : decide (dB (y + 1) ≤ d) = true := decide_eq_true hc
    have hcall := dayN_first (y + 1) wr (by omega) (by omega) 0 (by omega)
    rw [show dB (y + 1) + cumM (y + 1) 0 = dB (y + 1) by simp [cumM]] at hcall
    have HC := Lib.hid hcall
    clear hcall
    go_wp2_with fail
    refine HC.out.mono ?_
    rintro e w2 ⟨rfl, hb2⟩
    go_wp2_with fail
    go_roundw
    case rel => exact ⟨y + 1, by omega, by omega, hc, by first | rfl | trivial, hbl.trans (hb2.mono hsw)⟩
    case measure => simp [intOf]; omega
   ·have hr : Hid (d < dB y + restM y 12) := Lib.hid (by
       rw [← dB_succ]
       by_cases h4 : y < 4000
       ·exact Int.not_le.1 (fun h => hex ⟨h4, h⟩)
       ·have e : y = 4000 := by omega
        subst e
        have := HLA.out
        show d < dB 4001
        omega)
    by_cases hy4 : y < 4000
    ·have d0 : decide (y < 4000) = true := decide_eq_true hy4
     have d1 : decide (dB (y + 1) ≤ d) = false := decide_eq_false (fun h => hex ⟨hy4, h⟩)
     have hcall := dayN_first (y + 1) wr (by omega) (by omega) 0 (by omega)
     rw [show dB (y + 1) + cumM (y + 1) 0 = dB (y + 1) by simp [cumM]] at hcall
     have HC := Lib.hid hcall
     clear hcall hex
     go_wp2_with fail
     refine HC.out.mono ?_
     clear HC
     rintro e w2 ⟨rfl, hb2⟩
     have hbl2 := hbl.trans (hb2.mono hsw)
     clear hbl hb2 hsw
     go_wp2_with fail
     go_loopw [4] (fun i wr => ∃ j : Nat, j ≤ 11 ∧ dB y + cumM y j ≤ d ∧ i = .int .i64 ((j : Int) + 1) ∧ Below w.heap.size w wr) (fun i _ => (13 - intOf i).toNat)
     case atStart => exact ⟨0, by omega, by simp [cumM]; exact hyd, by simp, hbl2⟩
     case round =>
      clear hbl2
      obtain ⟨j, hj, hjd, rfl, hbl⟩ := hrel
      have hsw := hbl.size
      have hge := dB_ge hy1
      have hcb := cumM_bounds y j
      by_cases hex : j < 11 ∧ dB y + cumM y (j + 1) ≤ d
      ·obtain ⟨hj1, hc⟩ := hex
       have d0 : decide ((j : Int) + 1 < 12) = true := decide_eq_true (by omega)
       have d1 : decide (dB y + cumM y (j + 1) ≤ d) = true := decide_eq_true hc
       have hcall := dayN_first y wr hy1 hy2 (j + 1) (by omega)
       rw [show ((j + 1 : Nat) : Int) + 1 = (j : Int) + 1 + 1 by omega] at hcall
       have HC := Lib.hid hcall
       clear hcall
       go_wp2_with fail
       refine HC.out.mono ?_
       rintro e w3 ⟨rfl, hb3⟩
       go_wp2_with fail
       go_roundw
       case rel => exact ⟨j + 1, by omega, hc, by first | trivial | go_num, hbl.trans (hb3.mono hsw)⟩
       case measure => simp [intOf]; omega
      ·have hr2 : d - (dB y + cumM y j) < mdOf y ((j : Int) + 1) := by
          have hs := cumM_succ y j
          by_cases h11 : j < 11
          ·have : ¬ dB y + cumM y (j + 1) ≤ d := fun h => hex ⟨h11, h⟩
           omega
          ·have e : j = 11 := by omega
           subst e
           have hf := cumM_full y
           have := hr.out
           have hs2 : cumM y 12 = cumM y 11 + mdOf y (((11 : Nat) : Int) + 1) := hs
           omega
       have hmb := mdOf_bounds y ((j : Int) + 1)
       have hcall9 := fun w' => dayN_first y w' hy1 hy2 j hj
       have HC9 := Lib.hid hcall9
       clear hcall9
       by_cases hj1 : j < 11
       ·have d0 : decide ((j : Int) + 1 < 12) = true := decide_eq_true (by omega)
        have d1 : decide (dB y + cumM y (j + 1) ≤ d) = false := decide_eq_false (fun h => hex ⟨hj1, h⟩)
        have hcall := dayN_first y wr hy1 hy2 (j + 1) (by omega)
        rw [show ((j + 1 : Nat) : Int) + 1 = (j : Int) + 1 + 1 by omega] at hcall
        have HC := Lib.hid hcall
        clear hcall hex
        go_wp2_with fail
        refine HC.out.mono ?_
        clear HC
        rintro e w3 ⟨rfl, hb3⟩
        have hbl3 := hbl.trans (hb3.mono hsw)
        clear hbl hb3 hsw
        go_wp2_with fail
        refine (HC9.out w3).mono ?_
        clear HC9
        rintro e w4 ⟨rfl, hb4⟩
        have hbl4 := hbl3.trans (hb4.mono hbl3.size)
        clear hbl3 hb4
        obtain ⟨r, hrr⟩ : ∃ r, r = d - (dB y + cumM y j) + 1 := ⟨_, rfl⟩
        obtain ⟨m, hm⟩ : ∃ m : Int, m = (j : Int) + 1 := ⟨_, rfl⟩
        have hr1 : 1 ≤ r := by omega
        have hr31 : r ≤ 31 := by omega
        go_wp2_with fail
        rw [← hrr, ← hm]
        have hm1 : 1 ≤ m := by omega
        have hm12 : m ≤ 12 := by omega
        have HDY := Lib.hid (dy_of hy1 hy2 hj hr1 hrr hm hr2)
        clear hrr hm hr2 hmb hjd hge hcb
        obtain ⟨wD, hwD⟩ : ∃ wD, wD = w4.alloc (.cells #[.int .i64 (y / 1000), .int .i64 (y / 100 % 10), .int .i64 (y / 10 % 10), .int .i64 (y % 10), .int .i64 (-1), .int .i64 (m / 10), .int .i64 (m % 10), .int .i64 (-1), .int .i64 (r / 10), .int .i64 (r % 10)] 3) := ⟨_, rfl⟩
        have hcell : ∀ q, q < 10 → ∃ v : Int, -1 ≤ v ∧ v ≤ 9 ∧ wD.cell? ⟨w4.heap.size, q, none⟩ = some (.int .i64 v) ∧ bb (dtx y.toNat m.toNat r.toNat) q = (if v < 0 then 46 else 48 + v) := fun q hq => by
         rw [hwD, World.cell?_alloc_at _ _ _ _ rfl]
         match q, hq with
         | 0, _ => exact ⟨y / 1000, by omega, by omega, rfl, dtx_q0 (by omega) (by omega) (by omega)⟩
         | 1, _ => exact ⟨y / 100 % 10, by omega, by omega, rfl, dtx_q1 (by omega) (by omega) (by omega)⟩
         | 2, _ => exact ⟨y / 10 % 10, by omega, by omega, rfl, dtx_q2 (by omega) (by omega) (by omega)⟩
         | 3, _ => exact ⟨y % 10, by omega, by omega, rfl, dtx_q3 (by omega) (by omega) (by omega)⟩
         | 4, _ => exact ⟨-1, by omega, by omega, rfl, dtx_q4 (by omega) (by omega) (by omega)⟩
         | 5, _ => exact ⟨m / 10, by omega, by omega, rfl, dtx_q5 (by omega) (by omega) (by omega)⟩
         | 6, _ => exact ⟨m % 10, by omega, by omega, rfl, dtx_q6 (by omega) (by omega) (by omega)⟩
         | 7, _ => exact ⟨-1, by omega, by omega, rfl, dtx_q7 (by omega) (by omega) (by omega)⟩
         | 8, _ => exact ⟨r / 10, by omega, by omega, rfl, dtx_q8 (by omega) (by omega) (by omega)⟩
         | 9, _ => exact ⟨r % 10, by omega, by omega, rfl, dtx_q9 (by omega) (by omega) (by omega)⟩
        have HCE := Lib.hid hcell
        have hblD : Below w.heap.size w wD := by rw [hwD]; exact hbl4.alloc hbl4.size _
        have hzD : w4.heap.size < wD.heap.size := by rw [hwD]; simp
        rw [← hwD]
        clear hwD hbl4 hcell
        go_loopw [6, 8] (fun o i wr => ∃ (k : Nat) (s : ByteArray), k ≤ 10 ∧ Hid (s = (dtx y.toNat m.toNat r.toNat).extract 0 k) ∧ o = .string s ∧ i = .int .i64 (k : Int) ∧ Below wD.heap.size wD wr) (fun _ i _ => (10 - intOf i).toNat)
        case atStart => exact ⟨0, _, by omega, Lib.hid (ext_zero _).symm, rfl, rfl, Below.refl _ _⟩
        case round =>
         obtain ⟨k, s, hk, hst, rfl, rfl, hbw⟩ := hrel
         have hsk : s.size = k := by rw [hst.out, size_ext (by rw [dtx_size]; exact hk)]; omega
         have hsx := hbw.size
         by_cases hlt : k < 10
         ·have hd2 : decide ((k : Int) < 10) = true := decide_eq_true (by omega)
          obtain ⟨v, hv1, hv2, hcv, hbv⟩ := HCE.out k hlt
          have hcr := (hbw.cell (p := ⟨w4.heap.size, k, none⟩) hzD).trans hcv
          by_cases hneg : v < 0
          ·have hd3 : decide (v < 0) = true := decide_eq_true hneg
           have HST := Lib.hid (dtx_snoc (s := s) (c := 46) hst.out (by rw [dtx_size]; exact hlt) (hbv.trans (if_pos hneg)) (by omega) (by omega))
           clear hbv
           go_wp2_with fail
           go_roundw
           case rel => exact ⟨k + 1, _, by omega, Lib.hid (HST.out), rfl, by first | go_num | trivial, hbw⟩
           case measure => simp [intOf]; omega
          ·have hd3 : decide (v < 0) = false := decide_eq_false hneg
           have HST := Lib.hid (dtx_snoc (s := s) (c := 48 + v) hst.out (by rw [dtx_size]; exact hlt) (hbv.trans (if_neg hneg)) (by omega) (by omega))
           clear hbv
           have hcc := conv_c wr (48 + v)
           go_wp2_with fail
           go_roundw
           case rel => exact ⟨k + 1, _, by omega, Lib.hid (HST.out), rfl, by first | go_num | trivial, hbw.alloc hbw.size _⟩
           case measure => simp [intOf]; omega
         ·have hd2 : decide ((k : Int) < 10) = false := decide_eq_false (by omega)
          obtain rfl : k = 10 := by omega
          go_wp2_with fail
          go_ret
          exact ⟨⟨s, rfl, dayT_yes (by omega) (by omega) (by omega) HDY.out (by rw [hst.out]; exact (congrArg _ (dtx_size _ _ _).symm).trans (extract_all _))⟩, hblD.trans (hbw.mono hblD.size)⟩
       ·have d0 : decide ((j : Int) + 1 < 12) = false := decide_eq_false (by omega)
        clear hex
        have hbl3 := hbl
        clear hbl hsw
        obtain ⟨w3, rfl⟩ : ∃ w3 : World, w3 = wr := ⟨_, rfl⟩
        go_wp2_with fail
        refine (HC9.out w3).mono ?_
        clear HC9
        rintro e w4 ⟨rfl, hb4⟩
        have hbl4 := hbl3.trans (hb4.mono hbl3.size)
        clear hbl3 hb4
        obtain ⟨r, hrr⟩ : ∃ r, r = d - (dB y + cumM y j) + 1 := ⟨_, rfl⟩
        obtain ⟨m, hm⟩ : ∃ m : Int, m = (j : Int) + 1 := ⟨_, rfl⟩
        have hr1 : 1 ≤ r := by omega
        have hr31 : r ≤ 31 := by omega
        go_wp2_with fail
        rw [← hrr, ← hm]
        have hm1 : 1 ≤ m := by omega
        have hm12 : m ≤ 12 := by omega
        have HDY := Lib.hid (dy_of hy1 hy2 hj hr1 hrr hm hr2)
        clear hrr hm hr2 hmb hjd hge hcb
        obtain ⟨wD, hwD⟩ : ∃ wD, wD = w4.alloc (.cells #[.int .i64 (y / 1000), .int .i64 (y / 100 % 10), .int .i64 (y / 10 % 10), .int .i64 (y % 10), .int .i64 (-1), .int .i64 (m / 10), .int .i64 (m % 10), .int .i64 (-1), .int .i64 (r / 10), .int .i64 (r % 10)] 3) := ⟨_, rfl⟩
        have hcell : ∀ q, q < 10 → ∃ v : Int, -1 ≤ v ∧ v ≤ 9 ∧ wD.cell? ⟨w4.heap.size, q, none⟩ = some (.int .i64 v) ∧ bb (dtx y.toNat m.toNat r.toNat) q = (if v < 0 then 46 else 48 + v) := fun q hq => by
         rw [hwD, World.cell?_alloc_at _ _ _ _ rfl]
         match q, hq with
         | 0, _ => exact ⟨y / 1000, by omega, by omega, rfl, dtx_q0 (by omega) (by omega) (by omega)⟩
         | 1, _ => exact ⟨y / 100 % 10, by omega, by omega, rfl, dtx_q1 (by omega) (by omega) (by omega)⟩
         | 2, _ => exact ⟨y / 10 % 10, by omega, by omega, rfl, dtx_q2 (by omega) (by omega) (by omega)⟩
         | 3, _ => exact ⟨y % 10, by omega, by omega, rfl, dtx_q3 (by omega) (by omega) (by omega)⟩
         | 4, _ => exact ⟨-1, by omega, by omega, rfl, dtx_q4 (by omega) (by omega) (by omega)⟩
         | 5, _ => exact ⟨m / 10, by omega, by omega, rfl, dtx_q5 (by omega) (by omega) (by omega)⟩
         | 6, _ => exact ⟨m % 10, by omega, by omega, rfl, dtx_q6 (by omega) (by omega) (by omega)⟩
         | 7, _ => exact ⟨-1, by omega, by omega, rfl, dtx_q7 (by omega) (by omega) (by omega)⟩
         | 8, _ => exact ⟨r / 10, by omega, by omega, rfl, dtx_q8 (by omega) (by omega) (by omega)⟩
         | 9, _ => exact ⟨r % 10, by omega, by omega, rfl, dtx_q9 (by omega) (by omega) (by omega)⟩
        have HCE := Lib.hid hcell
        have hblD : Below w.heap.size w wD := by rw [hwD]; exact hbl4.alloc hbl4.size _
        have hzD : w4.heap.size < wD.heap.size := by rw [hwD]; simp
        rw [← hwD]
        clear hwD hbl4 hcell
        go_loopw [6, 8] (fun o i wr => ∃ (k : Nat) (s : ByteArray), k ≤ 10 ∧ Hid (s = (dtx y.toNat m.toNat r.toNat).extract 0 k) ∧ o = .string s ∧ i = .int .i64 (k : Int) ∧ Below wD.heap.size wD wr) (fun _ i _ => (10 - intOf i).toNat)
        case atStart => exact ⟨0, _, by omega, Lib.hid (ext_zero _).symm, rfl, rfl, Below.refl _ _⟩
        case round =>
         obtain ⟨k, s, hk, hst, rfl, rfl, hbw⟩ := hrel
         have hsk : s.size = k := by rw [hst.out, size_ext (by rw [dtx_size]; exact hk)]; omega
         have hsx := hbw.size
         by_cases hlt : k < 10
         ·have hd2 : decide ((k : Int) < 10) = true := decide_eq_true (by omega)
          obtain ⟨v, hv1, hv2, hcv, hbv⟩ := HCE.out k hlt
          have hcr := (hbw.cell (p := ⟨w4.heap.size, k, none⟩) hzD).trans hcv
          by_cases hneg : v < 0
          ·have hd3 : decide (v < 0) = true := decide_eq_true hneg
           have HST := Lib.hid (dtx_snoc (s := s) (c := 46) hst.out (by rw [dtx_size]; exact hlt) (hbv.trans (if_pos hneg)) (by omega) (by omega))
           clear hbv
           go_wp2_with fail
           go_roundw
           case rel => exact ⟨k + 1, _, by omega, Lib.hid (HST.out), rfl, by first | go_num | trivial, hbw⟩
           case measure => simp [intOf]; omega
          ·have hd3 : decide (v < 0) = false := decide_eq_false hneg
           have HST := Lib.hid (dtx_snoc (s := s) (c := 48 + v) hst.out (by rw [dtx_size]; exact hlt) (hbv.trans (if_neg hneg)) (by omega) (by omega))
           clear hbv
           have hcc := conv_c wr (48 + v)
           go_wp2_with fail
           go_roundw
           case rel => exact ⟨k + 1, _, by omega, Lib.hid (HST.out), rfl, by first | go_num | trivial, hbw.alloc hbw.size _⟩
           case measure => simp [intOf]; omega
         ·have hd2 : decide ((k : Int) < 10) = false := decide_eq_false (by omega)
          obtain rfl : k = 10 := by omega
          go_wp2_with fail
          go_ret
          exact ⟨⟨s, rfl, dayT_yes (by omega) (by omega) (by omega) HDY.out (by rw [hst.out]; exact (congrArg _ (dtx_size _ _ _).symm).trans (extract_all _))⟩, hblD.trans (hbw.mono hblD.size)⟩
    ·have d0 : decide (y < 4000) = false := decide_eq_false hy4
     clear hex
     have hbl2 := hbl
     clear hbl hsw
     obtain ⟨w2, rfl⟩ : ∃ w2 : World, w2 = wr := ⟨_, rfl⟩
     go_wp2_with fail
     clear d0 hy4
     go_loopw [4] (fun i wr => ∃ j : Nat, j ≤ 11 ∧ dB y + cumM y j ≤ d ∧ i = .int .i64 ((j : Int) + 1) ∧ Below w.heap.size w wr) (fun i _ => (13 - intOf i).toNat)
     case atStart => exact ⟨0, by omega, by simp [cumM]; exact hyd, by simp, hbl2⟩
     case round =>
      clear hbl2
      obtain ⟨j, hj, hjd, rfl, hbl⟩ := hrel
      have hsw := hbl.size
      have hge := dB_ge hy1
      have hcb := cumM_bounds y j
      by_cases hex : j < 11 ∧ dB y + cumM y (j + 1) ≤ d
      ·obtain ⟨hj1, hc⟩ := hex
       have d0 : decide ((j : Int) + 1 < 12) = true := decide_eq_true (by omega)
       have d1 : decide (dB y + cumM y (j + 1) ≤ d) = true := decide_eq_true hc
       have hcall := dayN_first y wr hy1 hy2 (j + 1) (by omega)
       rw [show ((j + 1 : Nat) : Int) + 1 = (j : Int) + 1 + 1 by omega] at hcall
       have HC := Lib.hid hcall
       clear hcall
       go_wp2_with fail
       refine HC.out.mono ?_
       rintro e w3 ⟨rfl, hb3⟩
       go_wp2_with fail
       go_roundw
       case rel => exact ⟨j + 1, by omega, hc, by first | trivial | go_num, hbl.trans (hb3.mono hsw)⟩
       case measure => simp [intOf]; omega
      ·have hr2 : d - (dB y + cumM y j) < mdOf y ((j : Int) + 1) := by
          have hs := cumM_succ y j
          by_cases h11 : j < 11
          ·have : ¬ dB y + cumM y (j + 1) ≤ d := fun h => hex ⟨h11, h⟩
           omega
          ·have e : j = 11 := by omega
           subst e
           have hf := cumM_full y
           have := hr.out
           have hs2 : cumM y 12 = cumM y 11 + mdOf y (((11 : Nat) : Int) + 1) := hs
           omega
       have hmb := mdOf_bounds y ((j : Int) + 1)
       have hcall9 := fun w' => dayN_first y w' hy1 hy2 j hj
       have HC9 := Lib.hid hcall9
       clear hcall9
       by_cases hj1 : j < 11
       ·have d0 : decide ((j : Int) + 1 < 12) = true := decide_eq_true (by omega)
        have d1 : decide (dB y + cumM y (j + 1) ≤ d) = false := decide_eq_false (fun h => hex ⟨hj1, h⟩)
        have hcall := dayN_first y wr hy1 hy2 (j + 1) (by omega)
        rw [show ((j + 1 : Nat) : Int) + 1 = (j : Int) + 1 + 1 by omega] at hcall
        have HC := Lib.hid hcall
        clear hcall hex
        go_wp2_with fail
        refine HC.out.mono ?_
        clear HC
        rintro e w3 ⟨rfl, hb3⟩
        have hbl3 := hbl.trans (hb3.mono hsw)
        clear hbl hb3 hsw
        go_wp2_with fail
        refine (HC9.out w3).mono ?_
        clear HC9
        rintro e w4 ⟨rfl, hb4⟩
        have hbl4 := hbl3.trans (hb4.mono hbl3.size)
        clear hbl3 hb4
        obtain ⟨r, hrr⟩ : ∃ r, r = d - (dB y + cumM y j) + 1 := ⟨_, rfl⟩
        obtain ⟨m, hm⟩ : ∃ m : Int, m = (j : Int) + 1 := ⟨_, rfl⟩
        have hr1 : 1 ≤ r := by omega
        have hr31 : r ≤ 31 := by omega
        go_wp2_with fail
        rw [← hrr, ← hm]
        have hm1 : 1 ≤ m := by omega
        have hm12 : m ≤ 12 := by omega
        have HDY := Lib.hid (dy_of hy1 hy2 hj hr1 hrr hm hr2)
        clear hrr hm hr2 hmb hjd hge hcb
        obtain ⟨wD, hwD⟩ : ∃ wD, wD = w4.alloc (.cells #[.int .i64 (y / 1000), .int .i64 (y / 100 % 10), .int .i64 (y / 10 % 10), .int .i64 (y % 10), .int .i64 (-1), .int .i64 (m / 10), .int .i64 (m % 10), .int .i64 (-1), .int .i64 (r / 10), .int .i64 (r % 10)] 3) := ⟨_, rfl⟩
        have hcell : ∀ q, q < 10 → ∃ v : Int, -1 ≤ v ∧ v ≤ 9 ∧ wD.cell? ⟨w4.heap.size, q, none⟩ = some (.int .i64 v) ∧ bb (dtx y.toNat m.toNat r.toNat) q = (if v < 0 then 46 else 48 + v) := fun q hq => by
         rw [hwD, World.cell?_alloc_at _ _ _ _ rfl]
         match q, hq with
         | 0, _ => exact ⟨y / 1000, by omega, by omega, rfl, dtx_q0 (by omega) (by omega) (by omega)⟩
         | 1, _ => exact ⟨y / 100 % 10, by omega, by omega, rfl, dtx_q1 (by omega) (by omega) (by omega)⟩
         | 2, _ => exact ⟨y / 10 % 10, by omega, by omega, rfl, dtx_q2 (by omega) (by omega) (by omega)⟩
         | 3, _ => exact ⟨y % 10, by omega, by omega, rfl, dtx_q3 (by omega) (by omega) (by omega)⟩
         | 4, _ => exact ⟨-1, by omega, by omega, rfl, dtx_q4 (by omega) (by omega) (by omega)⟩
         | 5, _ => exact ⟨m / 10, by omega, by omega, rfl, dtx_q5 (by omega) (by omega) (by omega)⟩
         | 6, _ => exact ⟨m % 10, by omega, by omega, rfl, dtx_q6 (by omega) (by omega) (by omega)⟩
         | 7, _ => exact ⟨-1, by omega, by omega, rfl, dtx_q7 (by omega) (by omega) (by omega)⟩
         | 8, _ => exact ⟨r / 10, by omega, by omega, rfl, dtx_q8 (by omega) (by omega) (by omega)⟩
         | 9, _ => exact ⟨r % 10, by omega, by omega, rfl, dtx_q9 (by omega) (by omega) (by omega)⟩
        have HCE := Lib.hid hcell
        have hblD : Below w.heap.size w wD := by rw [hwD]; exact hbl4.alloc hbl4.size _
        have hzD : w4.heap.size < wD.heap.size := by rw [hwD]; simp
        rw [← hwD]
        clear hwD hbl4 hcell
        go_loopw [6, 8] (fun o i wr => ∃ (k : Nat) (s : ByteArray), k ≤ 10 ∧ Hid (s = (dtx y.toNat m.toNat r.toNat).extract 0 k) ∧ o = .string s ∧ i = .int .i64 (k : Int) ∧ Below wD.heap.size wD wr) (fun _ i _ => (10 - intOf i).toNat)
        case atStart => exact ⟨0, _, by omega, Lib.hid (ext_zero _).symm, rfl, rfl, Below.refl _ _⟩
        case round =>
         obtain ⟨k, s, hk, hst, rfl, rfl, hbw⟩ := hrel
         have hsk : s.size = k := by rw [hst.out, size_ext (by rw [dtx_size]; exact hk)]; omega
         have hsx := hbw.size
         by_cases hlt : k < 10
         ·have hd2 : decide ((k : Int) < 10) = true := decide_eq_true (by omega)
          obtain ⟨v, hv1, hv2, hcv, hbv⟩ := HCE.out k hlt
          have hcr := (hbw.cell (p := ⟨w4.heap.size, k, none⟩) hzD).trans hcv
          by_cases hneg : v < 0
          ·have hd3 : decide (v < 0) = true := decide_eq_true hneg
           have HST := Lib.hid (dtx_snoc (s := s) (c := 46) hst.out (by rw [dtx_size]; exact hlt) (hbv.trans (if_pos hneg)) (by omega) (by omega))
           clear hbv
           go_wp2_with fail
           go_roundw
           case rel => exact ⟨k + 1, _, by omega, Lib.hid (HST.out), rfl, by first | go_num | trivial, hbw⟩
           case measure => simp [intOf]; omega
          ·have hd3 : decide (v < 0) = false := decide_eq_false hneg
           have HST := Lib.hid (dtx_snoc (s := s) (c := 48 + v) hst.out (by rw [dtx_size]; exact hlt) (hbv.trans (if_neg hneg)) (by omega) (by omega))
           clear hbv
           have hcc := conv_c wr (48 + v)
           go_wp2_with fail
           go_roundw
           case rel => exact ⟨k + 1, _, by omega, Lib.hid (HST.out), rfl, by first | go_num | trivial, hbw.alloc hbw.size _⟩
           case measure => simp [intOf]; omega
         ·have hd2 : decide ((k : Int) < 10) = false := decide_eq_false (by omega)
          obtain rfl : k = 10 := by omega
          go_wp2_with fail
          go_ret
          exact ⟨⟨s, rfl, dayT_yes (by omega) (by omega) (by omega) HDY.out (by rw [hst.out]; exact (congrArg _ (dtx_size _ _ _).symm).trans (extract_all _))⟩, hblD.trans (hbw.mono hblD.size)⟩
       ·have d0 : decide ((j : Int) + 1 < 12) = false := decide_eq_false (by omega)
        clear hex
        have hbl3 := hbl
        clear hbl hsw
        obtain ⟨w3, rfl⟩ : ∃ w3 : World, w3 = wr := ⟨_, rfl⟩
        go_wp2_with fail
        refine (HC9.out w3).mono ?_
        clear HC9
        rintro e w4 ⟨rfl, hb4⟩
        have hbl4 := hbl3.trans (hb4.mono hbl3.size)
        clear hbl3 hb4
        obtain ⟨r, hrr⟩ : ∃ r, r = d - (dB y + cumM y j) + 1 := ⟨_, rfl⟩
        obtain ⟨m, hm⟩ : ∃ m : Int, m = (j : Int) + 1 := ⟨_, rfl⟩
        have hr1 : 1 ≤ r := by omega
        have hr31 : r ≤ 31 := by omega
        go_wp2_with fail
        rw [← hrr, ← hm]
        have hm1 : 1 ≤ m := by omega
        have hm12 : m ≤ 12 := by omega
        have HDY := Lib.hid (dy_of hy1 hy2 hj hr1 hrr hm hr2)
        clear hrr hm hr2 hmb hjd hge hcb
        obtain ⟨wD, hwD⟩ : ∃ wD, wD = w4.alloc (.cells #[.int .i64 (y / 1000), .int .i64 (y / 100 % 10), .int .i64 (y / 10 % 10), .int .i64 (y % 10), .int .i64 (-1), .int .i64 (m / 10), .int .i64 (m % 10), .int .i64 (-1), .int .i64 (r / 10), .int .i64 (r % 10)] 3) := ⟨_, rfl⟩
        have hcell : ∀ q, q < 10 → ∃ v : Int, -1 ≤ v ∧ v ≤ 9 ∧ wD.cell? ⟨w4.heap.size, q, none⟩ = some (.int .i64 v) ∧ bb (dtx y.toNat m.toNat r.toNat) q = (if v < 0 then 46 else 48 + v) := fun q hq => by
         rw [hwD, World.cell?_alloc_at _ _ _ _ rfl]
         match q, hq with
         | 0, _ => exact ⟨y / 1000, by omega, by omega, rfl, dtx_q0 (by omega) (by omega) (by omega)⟩
         | 1, _ => exact ⟨y / 100 % 10, by omega, by omega, rfl, dtx_q1 (by omega) (by omega) (by omega)⟩
         | 2, _ => exact ⟨y / 10 % 10, by omega, by omega, rfl, dtx_q2 (by omega) (by omega) (by omega)⟩
         | 3, _ => exact ⟨y % 10, by omega, by omega, rfl, dtx_q3 (by omega) (by omega) (by omega)⟩
         | 4, _ => exact ⟨-1, by omega, by omega, rfl, dtx_q4 (by omega) (by omega) (by omega)⟩
         | 5, _ => exact ⟨m / 10, by omega, by omega, rfl, dtx_q5 (by omega) (by omega) (by omega)⟩
         | 6, _ => exact ⟨m % 10, by omega, by omega, rfl, dtx_q6 (by omega) (by omega) (by omega)⟩
         | 7, _ => exact ⟨-1, by omega, by omega, rfl, dtx_q7 (by omega) (by omega) (by omega)⟩
         | 8, _ => exact ⟨r / 10, by omega, by omega, rfl, dtx_q8 (by omega) (by omega) (by omega)⟩
         | 9, _ => exact ⟨r % 10, by omega, by omega, rfl, dtx_q9 (by omega) (by omega) (by omega)⟩
        have HCE := Lib.hid hcell
        have hblD : Below w.heap.size w wD := by rw [hwD]; exact hbl4.alloc hbl4.size _
        have hzD : w4.heap.size < wD.heap.size := by rw [hwD]; simp
        rw [← hwD]
        clear hwD hbl4 hcell
        go_loopw [6, 8] (fun o i wr => ∃ (k : Nat) (s : ByteArray), k ≤ 10 ∧ Hid (s = (dtx y.toNat m.toNat r.toNat).extract 0 k) ∧ o = .string s ∧ i = .int .i64 (k : Int) ∧ Below wD.heap.size wD wr) (fun _ i _ => (10 - intOf i).toNat)
        case atStart => exact ⟨0, _, by omega, Lib.hid (ext_zero _).symm, rfl, rfl, Below.refl _ _⟩
        case round =>
         obtain ⟨k, s, hk, hst, rfl, rfl, hbw⟩ := hrel
         have hsk : s.size = k := by rw [hst.out, size_ext (by rw [dtx_size]; exact hk)]; omega
         have hsx := hbw.size
         by_cases hlt : k < 10
         ·have hd2 : decide ((k : Int) < 10) = true := decide_eq_true (by omega)
          obtain ⟨v, hv1, hv2, hcv, hbv⟩ := HCE.out k hlt
          have hcr := (hbw.cell (p := ⟨w4.heap.size, k, none⟩) hzD).trans hcv
          by_cases hneg : v < 0
          ·have hd3 : decide (v < 0) = true := decide_eq_true hneg
           have HST := Lib.hid (dtx_snoc (s := s) (c := 46) hst.out (by rw [dtx_size]; exact hlt) (hbv.trans (if_pos hneg)) (by omega) (by omega))
           clear hbv
           go_wp2_with fail
           go_roundw
           case rel => exact ⟨k + 1, _, by omega, Lib.hid (HST.out), rfl, by first | go_num | trivial, hbw⟩
           case measure => simp [intOf]; omega
          ·have hd3 : decide (v < 0) = false := decide_eq_false hneg
           have HST := Lib.hid (dtx_snoc (s := s) (c := 48 + v) hst.out (by rw [dtx_size]; exact hlt) (hbv.trans (if_neg hneg)) (by omega) (by omega))
           clear hbv
           have hcc := conv_c wr (48 + v)
           go_wp2_with fail
           go_roundw
           case rel => exact ⟨k + 1, _, by omega, Lib.hid (HST.out), rfl, by first | go_num | trivial, hbw.alloc hbw.size _⟩
           case measure => simp [intOf]; omega
         ·have hd2 : decide ((k : Int) < 10) = false := decide_eq_false (by omega)
          obtain rfl : k = 10 := by omega
          go_wp2_with fail
          go_ret
          exact ⟨⟨s, rfl, dayT_yes (by omega) (by omega) (by omega) HDY.out (by rw [hst.out]; exact (congrArg _ (dtx_size _ _ _).symm).trans (extract_all _))⟩, hblD.trans (hbw.mono hblD.size)⟩
 ·have HI := Lib.hid (inB_false (n := d) (lo := 0) (hi := 1460969) (by omega))
  have HN := Lib.hid (dayB_no (d := d) (by omega))
  clear h0
  go_enter Tryz.func123, Tryz.ntmps123
  go_wp2_with fail
  refine (dayN_last w).mono ?_
  rintro e w1 ⟨rfl, hb1⟩
  go_wp2_with fail
  refine (l1In_any _ _ _ w1).mono ?_
  rintro e w' ⟨rfl, rfl⟩
  rw [HI.out]
  go_wp2_with fail
  go_ret
  exact ⟨⟨_, rfl, dayT_no HN.out⟩, hb1⟩

end Go.Proofs.YtfnmlffpnmmcdaaGreatDoor
namespace Go.Proofs.YtfnmlffpnmmcdaaGreatDoor
set_option maxRecDepth 100000
open Go.RowKit
theorem inB_ff {n lo hi : Int} (h : ¬ (lo ≤ n ∧ n ≤ hi)) : inB n lo hi = false := inB_false (by omega)
theorem dy_md {y m d : Int} (h1 : 1 ≤ d) (h2 : d ≤ mdA y m) : Dy y m d := by
 unfold mdA at h2
 split at h2
 ·next h => exact ⟨h, h1, h2⟩
 ·omega
theorem dy_mdA {y m d : Int} (h : Dy y m d) : 1 ≤ d ∧ d ≤ mdA y m := by
 obtain ⟨⟨h1, h2⟩, h3⟩ := h
 rw [mdA_yes h1.1 h1.2 h2.1 h2.2]; exact h3
theorem implMonthDays_b (y m : Int) (w : World) : Calls Tryz.prog 164 #[.int .i64 y, .int .i64 m] w fun e w' => e = .returned (.int .i64 (mdA y m)) ∧ w = w' := by
 by_cases h : (1 ≤ y ∧ y ≤ 4000) ∧ 1 ≤ m ∧ m ≤ 12
 ·rw [mdA_yes h.1.1 h.1.2 h.2.1 h.2.2]; exact implMonthDays_any y m w h.1.1 h.1.2 h.2.1 h.2.2
 rw [mdA_no h]
 by_cases hy : 1 ≤ y ∧ y ≤ 4000
 ·have HI0 := Lib.hid (inB_true hy.1 hy.2)
  have HI1 := Lib.hid (inB_ff (n := m) (lo := 1) (hi := 12) (fun q => h ⟨hy, q⟩))
  clear h hy
  go_enter Tryz.func164, Tryz.ntmps164
  go_wp2_with fail
  refine (within_any _ _ _ w).mono ?_
  rintro e w' ⟨rfl, rfl⟩
  rw [HI0.out]
  go_wp2_with fail
  refine (within_any _ _ _ w).mono ?_
  rintro e w' ⟨rfl, rfl⟩
  rw [HI1.out]
  go_wp2_with fail
  go_ret
  exact ⟨rfl, rfl⟩
 ·have HI1 := Lib.hid (inB_ff hy)
  clear h hy
  go_enter Tryz.func164, Tryz.ntmps164
  go_wp2_with fail
  refine (within_any _ _ _ w).mono ?_
  rintro e w' ⟨rfl, rfl⟩
  rw [HI1.out]
  go_wp2_with fail
  go_ret
  exact ⟨rfl, rfl⟩
theorem specMonthDays_b (y m : Int) (w : World) : Calls Tryz.prog 148 #[.int .i64 y, .int .i64 m] w fun e w' => e = .returned (.int .i64 (mdA y m)) ∧ Below w.heap.size w w' := by
 by_cases h : (1 ≤ y ∧ y ≤ 4000) ∧ 1 ≤ m ∧ m ≤ 12
 ·rw [mdA_yes h.1.1 h.1.2 h.2.1 h.2.2]; exact specMonthDays_any y m w h.1.1 h.1.2 h.2.1 h.2.2
 rw [mdA_no h]
 by_cases hy : 1 ≤ y ∧ y ≤ 4000
 ·have HI0 := Lib.hid (inB_true hy.1 hy.2)
  have HI1 := Lib.hid (inB_ff (n := m) (lo := 1) (hi := 12) (fun q => h ⟨hy, q⟩))
  clear h hy
  go_enter Tryz.func148, Tryz.ntmps148
  go_wp2_with fail
  refine (l1In_any _ _ _ w).mono ?_
  rintro e w' ⟨rfl, rfl⟩
  rw [HI0.out]
  go_wp2_with fail
  refine (l1In_any _ _ _ w).mono ?_
  rintro e w' ⟨rfl, rfl⟩
  rw [HI1.out]
  go_wp2_with fail
  go_ret
  exact ⟨rfl, Below.refl _ _⟩
 ·have HI1 := Lib.hid (inB_ff hy)
  clear h hy
  go_enter Tryz.func148, Tryz.ntmps148
  go_wp2_with fail
  refine (l1In_any _ _ _ w).mono ?_
  rintro e w' ⟨rfl, rfl⟩
  rw [HI1.out]
  go_wp2_with fail
  go_ret
  exact ⟨rfl, Below.refl _ _⟩
set_option maxHeartbeats 800000 in
theorem implDayNumber_b (y m d : Int) (w : World) : Calls Tryz.prog 158 #[.int .i64 y, .int .i64 m, .int .i64 d] w fun e w' => e = .returned (.int .i64 (dnOf y m d)) ∧ w = w' := by
 by_cases hD : Dy y m d
 ·have HQ := Lib.hid (dn_yes hD)
  have hmd := dy_mdA hD
  obtain ⟨⟨⟨hy1, hy2⟩, hm1, hm2⟩, hd1, hd2⟩ := hD
  obtain ⟨n, rfl⟩ : ∃ n : Nat, m = (n : Int) + 1 := ⟨(m - 1).toNat, by omega⟩
  have g1 : decide (d < 1) = false := decide_eq_false (by omega)
  have g2 : decide (mdA y ((n : Int) + 1) < d) = false := decide_eq_false (by omega)
  have hmb := mdOf_bounds y ((n : Int) + 1)
  have hge := dB_ge hy1
  have hle := dB_le hy1
  have hd31 : d ≤ 31 := by omega
  clear hmd hd2
  go_enter Tryz.func158, Tryz.ntmps158
  go_wp2_with (go_at_call 164; refine (implMonthDays_b _ _ _).mono ?_; rintro e w' ⟨rfl, rfl⟩)
  refine (daysBefore_any y w hy1 (by omega)).mono ?_
  rintro e w' ⟨rfl, rfl⟩
  go_wp2_with fail
  go_loop [7, 8] (fun v i => ∃ j : Nat, j ≤ n ∧ v = .int .i64 (dB y + cumM y j) ∧ i = .int .i64 ((j : Int) + 1)) (fun _ i => (13 - intOf i).toNat)
  case atStart => exact ⟨0, Nat.zero_le _, by simp [cumM], rfl⟩
  case round =>
   obtain ⟨j, hj, rfl, rfl⟩ := hrel
   have hcb := cumM_bounds y j
   by_cases hlt : j < n
   ·have d0 : decide ((j : Int) + 1 < (n : Int) + 1) = true := decide_eq_true (by omega)
    have d1 : (j : Int) < (n : Int) := by omega
    have hmj := mdOf_bounds y ((j : Int) + 1)
    go_wp2_with fail
    refine (implMonthDays_any y ((j : Int) + 1) w hy1 hy2 (by omega) (by omega)).mono ?_
    rintro e w' ⟨rfl, rfl⟩
    go_wp2_with fail
    go_round
    case rel => exact ⟨j + 1, by omega, by rw [cumM_succ, Int.add_assoc], by go_num⟩
    case measure => simp [intOf]; omega
   ·have d0 : decide ((j : Int) + 1 < (n : Int) + 1) = false := decide_eq_false (by omega)
    have d1 : ¬ (j : Int) < (n : Int) := by omega
    obtain rfl : j = n := by omega
    have HR := Lib.hid (show dnOf y ((j : Int) + 1) d = dB y + cumM y j + d - 1 by rw [HQ.out, show ((j : Int) + 1).toNat - 1 = j by omega]; omega)
    go_wp2_with fail
    go_ret
    exact ⟨ret_int HR.out.symm, rfl⟩
 ·have HQ := Lib.hid (dn_no hD)
  by_cases h1 : d < 1
  ·have g1 : decide (d < 1) = true := decide_eq_true h1
   go_enter Tryz.func158, Tryz.ntmps158
   go_wp2_with fail
   go_ret
   exact ⟨ret_int HQ.out.symm, rfl⟩
  ·have g1 : decide (d < 1) = false := decide_eq_false h1
   have g2 : decide (mdA y m < d) = true := decide_eq_true (Int.not_le.1 (fun h => hD (dy_md (by omega) h)))
   clear hD
   go_enter Tryz.func158, Tryz.ntmps158
   go_wp2_with (go_at_call 164; refine (implMonthDays_b _ _ _).mono ?_; rintro e w' ⟨rfl, rfl⟩)
   go_ret
   exact ⟨ret_int HQ.out.symm, rfl⟩
set_option maxHeartbeats 800000 in
theorem specDayNumber_b (y m d : Int) (w : World) : Calls Tryz.prog 122 #[.int .i64 y, .int .i64 m, .int .i64 d] w fun e w' => e = .returned (.int .i64 (dnOf y m d)) ∧ Below w.heap.size w w' := by
 by_cases hD : Dy y m d
 ·have HQ := dn_yes hD
  obtain ⟨⟨⟨hy1, hy2⟩, hm1, hm2⟩, hd1, hd2⟩ := hD
  obtain ⟨n, rfl⟩ := Int.eq_ofNat_of_zero_le (show 0 ≤ m by omega)
  have hc := specDayNumber_any y d n w hy1 hy2 (by omega) (by omega) hd1 hd2
  rw [HQ]
  exact hc
 ·rw [dn_no hD]
  have HI := Lib.hid (inB_ff (n := d) (lo := 1) (hi := mdA y m) (fun q => hD (dy_md q.1 q.2)))
  clear hD
  go_enter Tryz.func122, Tryz.ntmps122
  go_wp2_with fail
  refine (specMonthDays_b y m w).mono ?_
  rintro e w1 ⟨rfl, b1⟩
  go_wp2_with fail
  refine (l1In_any _ _ _ w1).mono ?_
  rintro e w' ⟨rfl, rfl⟩
  rw [HI.out]
  go_wp2_with fail
  go_ret
  exact ⟨rfl, b1⟩
end Go.Proofs.YtfnmlffpnmmcdaaGreatDoor
namespace Go.Proofs.YtfnmlffpnmmcdaaGreatDoor
set_option maxRecDepth 100000
open Go.RowKit
def dgs (t : ByteArray) (k : Nat) : Prop := ∀ j, j < k → 48 ≤ bb t j ∧ bb t j ≤ 57
instance (t : ByteArray) (k : Nat) : Decidable (dgs t k) := inferInstanceAs (Decidable (∀ j, j < k → _))
def rpTo (t : ByteArray) : Nat → Int
 | 0 => 0
 | k + 1 => rpTo t k * 10 + (bb t k - 48)
def rpOf (t : ByteArray) : Int := if dgs t t.size then rpTo t t.size else -1
theorem dgs_succ {t : ByteArray} {k : Nat} (h : dgs t k) (h1 : 48 ≤ bb t k ∧ bb t k ≤ 57) : dgs t (k + 1) := fun j hj => by
 rcases Nat.lt_succ_iff_lt_or_eq.1 hj with q | rfl
 ·exact h j q
 ·exact h1
theorem rp_bound {t : ByteArray} {k : Nat} (h : dgs t k) : 0 ≤ rpTo t k ∧ rpTo t k + 1 ≤ (10 ^ k : Nat) := by
 induction k with
 | zero => exact ⟨Int.le_refl _, by simp [rpTo]⟩
 | succ k ih =>
  have h1 := ih (fun j hj => h j (by omega))
  have h2 := h k (by omega)
  rw [rpTo, Nat.pow_succ]
  omega
theorem rp_small {t : ByteArray} {k : Nat} (h : dgs t k) (hk : k ≤ 4) : 0 ≤ rpTo t k ∧ rpTo t k ≤ 9999 := by
 have h1 := rp_bound h
 have h2 : 10 ^ k ≤ 10 ^ 4 := Nat.pow_le_pow_right (by omega) hk
 omega
theorem rp_yes {t : ByteArray} (h : dgs t t.size) : rpOf t = rpTo t t.size := if_pos h
theorem rp_no {t : ByteArray} {k : Nat} (hk : k < t.size) (h : ¬ (48 ≤ bb t k ∧ bb t k ≤ 57)) : rpOf t = -1 := if_neg (fun q => h (q k hk))
theorem rd_rp {s : ByteArray} (hs : s.size = 10) (h4 : bb s 4 = 46) (h7 : bb s 7 = 46) : rdD s = if 0 ≤ rpOf (s.extract 0 4) ∧ 0 ≤ rpOf (s.extract 5 7) ∧ 0 ≤ rpOf (s.extract 8 s.size) then dnOf (rpOf (s.extract 0 4)) (rpOf (s.extract 5 7)) (rpOf (s.extract 8 s.size)) else -1 := by
 have z1 : (s.extract 0 4).size = 4 := size_ext (by omega)
 have z2 : (s.extract 5 7).size = 2 := size_ext (by omega)
 have z3 : (s.extract 8 s.size).size = 2 := by rw [size_ext (Nat.le_refl _)]; omega
 have b1 : ∀ j, j < 4 → bb (s.extract 0 4) j = bb s j := fun j hj => by rw [bb_extract (by omega) (by omega), Nat.zero_add]
 have b2 : ∀ j, j < 2 → bb (s.extract 5 7) j = bb s (5 + j) := fun j hj => bb_extract (by omega) (by omega)
 have b3 : ∀ j, j < 2 → bb (s.extract 8 s.size) j = bb s (8 + j) := fun j hj => bb_extract (Nat.le_refl _) (by omega)
 by_cases hC : Cn s
 ·have d1 : dgs (s.extract 0 4) 4 := fun j hj => by rw [b1 j hj]; exact hC.2.2.2 j (by omega) (by omega) (by omega)
  have d2 : dgs (s.extract 5 7) 2 := fun j hj => by rw [b2 j hj]; exact hC.2.2.2 (5 + j) (by omega) (by omega) (by omega)
  have d3 : dgs (s.extract 8 s.size) 2 := fun j hj => by rw [b3 j hj]; exact hC.2.2.2 (8 + j) (by omega) (by omega) (by omega)
  have g : ∀ j, j < 10 → j ≠ 4 → j ≠ 7 → bb s j - 48 = (dgt s j : Int) := fun j h1 h2 h3 => by have := (cn_dg hC h1 h2 h3).1; omega
  have e1 : rpOf (s.extract 0 4) = (pY s : Int) := by
   rw [rp_yes (by rw [z1]; exact d1), z1]
   simp only [rpTo, b1 0 (by omega), b1 1 (by omega), b1 2 (by omega), b1 3 (by omega), g 0 (by omega) (by omega) (by omega), g 1 (by omega) (by omega) (by omega), g 2 (by omega) (by omega) (by omega), g 3 (by omega) (by omega) (by omega)]
   unfold pY; omega
  have e2 : rpOf (s.extract 5 7) = (pM s : Int) := by
   rw [rp_yes (by rw [z2]; exact d2), z2]
   simp only [rpTo, b2 0 (by omega), b2 1 (by omega), g (5 + 0) (by omega) (by omega) (by omega), g (5 + 1) (by omega) (by omega) (by omega)]
   show _ = (pM s : Int)
   unfold pM; simp only [Nat.add_zero]; show (0 * 10 + (dgt s 5 : Int)) * 10 + (dgt s 6 : Int) = _; omega
  have e3 : rpOf (s.extract 8 s.size) = (pD s : Int) := by
   rw [rp_yes (by rw [z3]; exact d3), z3]
   simp only [rpTo, b3 0 (by omega), b3 1 (by omega), g (8 + 0) (by omega) (by omega) (by omega), g (8 + 1) (by omega) (by omega) (by omega)]
   show _ = (pD s : Int)
   unfold pD; simp only [Nat.add_zero]; show (0 * 10 + (dgt s 8 : Int)) * 10 + (dgt s 9 : Int) = _; omega
  rw [rdD_yes hC, e1, e2, e3, if_pos (by omega)]
 ·rw [rdD_no hC, if_neg]
  rintro ⟨q1, q2, q3⟩
  have p1 : dgs (s.extract 0 4) (s.extract 0 4).size := by
   apply Classical.byContradiction; intro h; rw [rpOf, if_neg h] at q1; omega
  have p2 : dgs (s.extract 5 7) (s.extract 5 7).size := by
   apply Classical.byContradiction; intro h; rw [rpOf, if_neg h] at q2; omega
  have p3 : dgs (s.extract 8 s.size) (s.extract 8 s.size).size := by
   apply Classical.byContradiction; intro h; rw [rpOf, if_neg h] at q3; omega
  rw [z1] at p1
  rw [z2] at p2
  rw [z3] at p3
  refine hC ⟨hs, h4, h7, fun j hj n4 n7 => ?_⟩
  by_cases c1 : j < 4
  ·have := p1 j c1; rwa [b1 j c1] at this
  ·by_cases c2 : j < 7
   ·have := p2 (j - 5) (by omega); rwa [b2 _ (by omega), show 5 + (j - 5) = j by omega] at this
   ·have := p3 (j - 8) (by omega); rwa [b3 _ (by omega), show 8 + (j - 8) = j by omega] at this
set_option maxHeartbeats 800000 in
theorem readPadded_any (t : ByteArray) (w : World) (ht : t.size ≤ 4) : Calls Tryz.prog 157 #[.string t] w fun e w' => e = .returned (.int .i64 (rpOf t)) ∧ w = w' := by
 have hbb := bb_eq t
 go_enter Tryz.func157, Tryz.ntmps157
 go_wp2_with fail
 go_loop [3, 4] (fun n i => ∃ k : Nat, k ≤ t.size ∧ Hid (dgs t k) ∧ n = .int .i64 (rpTo t k) ∧ i = .int .i64 k) (fun _ i => t.size - (intOf i).toNat)
 case atStart => exact ⟨0, Nat.zero_le _, Lib.hid (fun j hj => absurd hj (by omega)), rfl, rfl⟩
 case round =>
  obtain ⟨k, hk, hd, rfl, rfl⟩ := hrel
  have hrb := rp_small hd.out (by omega)
  have hbg := bb_ge t k
  by_cases hlt : k < t.size
  ·have hki : (k : Int) < (t.size : Int) := by omega
   have hk0 : (0 : Int) ≤ (k : Int) := by omega
   by_cases h1 : bb t k < 48
   ·have g1 : decide (bb t k < 48) = true := decide_eq_true h1
    have HQ := Lib.hid (rp_no hlt (by omega))
    go_wp2_with fail
    go_ret
    exact ⟨ret_int HQ.out.symm, rfl⟩
   ·have g1 : decide (bb t k < 48) = false := decide_eq_false h1
    by_cases h2 : 57 < bb t k
    ·have g2 : decide (57 < bb t k) = true := decide_eq_true h2
     have HQ := Lib.hid (rp_no hlt (by omega))
     go_wp2_with fail
     go_ret
     exact ⟨ret_int HQ.out.symm, rfl⟩
    ·have g2 : decide (57 < bb t k) = false := decide_eq_false h2
     have HN := Lib.hid (dgs_succ hd.out ⟨by omega, by omega⟩)
     go_wp2_with fail
     go_round
     case rel => exact ⟨k + 1, by omega, HN, by first | rfl | (rw [rpTo]; go_num), by go_num⟩
     case measure => first | (simp [intOf]; done) | (simp [intOf]; omega)
  ·obtain rfl : k = t.size := by omega
   have HQ := Lib.hid (rp_yes hd.out)
   go_wp2_with fail
   go_ret
   exact ⟨ret_int HQ.out.symm, rfl⟩
set_option maxHeartbeats 800000 in
theorem implReadDate_any (s : ByteArray) (w : World) (_hs : s.size ≤ maxLen) : Calls Tryz.prog 132 #[.string s] w fun e w' => e = .returned (.int .i64 (rdD s)) ∧ Below w.heap.size w w' := by
 unfold maxLen at _hs
 have hbb := bb_eq s
 by_cases h10 : s.size = 10
 ·have e10 : ((s.size : Int) != 10) = false := by first | (simp [h10]; done) | (simp [h10]; omega)
  have b4 : (4 : Int) < (s.size : Int) := by omega
  have b7 : (7 : Int) < (s.size : Int) := by omega
  have b4n : 4 < s.size := by omega
  have b7n : 7 < s.size := by omega
  by_cases h4 : bb s 4 = 46
  ·have e4 : (bb s 4 != 46) = false := by simp [h4]
   by_cases h7 : bb s 7 = 46
   ·have e7 : (bb s 7 != 46) = false := by simp [h7]
    have hrd := rd_rp h10 h4 h7
    have b5 : (7 : Int) ≤ (s.size : Int) := by omega
    have b6 : (4 : Int) ≤ (s.size : Int) := by omega
    have b8 : (8 : Int) ≤ (s.size : Int) := by omega
    have z1 : (s.extract 0 4).size ≤ 4 := by rw [ByteArray.size_extract]; omega
    have z2 : (s.extract 5 7).size ≤ 4 := by rw [ByteArray.size_extract]; omega
    have z3 : (s.extract 8 s.size).size ≤ 4 := by rw [ByteArray.size_extract]; omega
    clear h10 h4 h7
    by_cases q1 : rpOf (s.extract 0 4) < 0
    ·have g1 : decide (rpOf (s.extract 0 4) < 0) = true := decide_eq_true q1
     rw [if_neg (by omega)] at hrd
     have HQ := Lib.hid hrd
     clear hrd
     go_enter Tryz.func132, Tryz.ntmps132
     go_wp2_with fail
     go_quiet ((go_at_call 157; exact quiet_of (readPadded_any _ _ (by assumption))))
     go_wp2_with fail
     go_ret
     exact ⟨ret_int HQ.out.symm, below_drewN (Below.refl _ _) _⟩
    have g1 : decide (rpOf (s.extract 0 4) < 0) = false := decide_eq_false q1
    by_cases q2 : rpOf (s.extract 5 7) < 0
    ·have g2 : decide (rpOf (s.extract 5 7) < 0) = true := decide_eq_true q2
     rw [if_neg (by omega)] at hrd
     have HQ := Lib.hid hrd
     clear hrd
     go_enter Tryz.func132, Tryz.ntmps132
     go_wp2_with fail
     go_quiet ((go_at_call 157; exact quiet_of (readPadded_any _ _ (by assumption))))
     go_wp2_with fail
     go_ret
     exact ⟨ret_int HQ.out.symm, below_drewN (Below.refl _ _) _⟩
    have g2 : decide (rpOf (s.extract 5 7) < 0) = false := decide_eq_false q2
    by_cases q3 : rpOf (s.extract 8 s.size) < 0
    ·have g3 : decide (rpOf (s.extract 8 s.size) < 0) = true := decide_eq_true q3
     rw [if_neg (by omega)] at hrd
     have HQ := Lib.hid hrd
     clear hrd
     go_enter Tryz.func132, Tryz.ntmps132
     go_wp2_with fail
     go_quiet ((go_at_call 157; exact quiet_of (readPadded_any _ _ (by assumption))))
     go_wp2_with fail
     go_ret
     exact ⟨ret_int HQ.out.symm, below_drewN (Below.refl _ _) _⟩
    have g3 : decide (rpOf (s.extract 8 s.size) < 0) = false := decide_eq_false q3
    rw [if_pos (by omega)] at hrd
    have HQ := Lib.hid hrd
    clear hrd
    go_enter Tryz.func132, Tryz.ntmps132
    go_wp2_with fail
    go_quiet ((go_at_call 157; exact quiet_of (readPadded_any _ _ (by assumption))))
    go_wp2_with fail
    refine (implDayNumber_b _ _ _ _).mono ?_
    rintro e w' ⟨rfl, rfl⟩
    go_wp2_with fail
    go_ret
    exact ⟨ret_int HQ.out.symm, below_drewN (Below.refl _ _) _⟩
   ·have e7 : (bb s 7 != 46) = true := by simp [h7]
    have HQ := Lib.hid (rdD_no (s := s) (fun h => h7 h.2.2.1))
    clear h10 h4 h7
    go_enter Tryz.func132, Tryz.ntmps132
    go_wp2_with fail
    go_ret
    exact ⟨ret_int HQ.out.symm, Below.refl _ _⟩
  ·have e4 : (bb s 4 != 46) = true := by simp [h4]
   have HQ := Lib.hid (rdD_no (s := s) (fun h => h4 h.2.1))
   clear h10 h4
   go_enter Tryz.func132, Tryz.ntmps132
   go_wp2_with fail
   go_ret
   exact ⟨ret_int HQ.out.symm, Below.refl _ _⟩
 ·have e10 : ((s.size : Int) != 10) = true := by simp; omega
  have HQ := Lib.hid (rdD_no (s := s) (fun h => h10 h.1))
  clear h10
  go_enter Tryz.func132, Tryz.ntmps132
  go_wp2_with fail
  go_ret
  exact ⟨ret_int HQ.out.symm, Below.refl _ _⟩
end Go.Proofs.YtfnmlffpnmmcdaaGreatDoor
namespace Go.Proofs.YtfnmlffpnmmcdaaGreatDoor
set_option maxRecDepth 100000
open Go.RowKit
def stS (s : ByteArray) : Nat → Nat × (Nat → Nat)
 | 0 => (0, fun _ => 0)
 | k + 1 => if bb s k = 46 ∧ (stS s k).1 < 2 then ((stS s k).1 + 1, (stS s k).2) else ((stS s k).1, fun j => if j = (stS s k).1 then 10 * (stS s k).2 (stS s k).1 + (bb s k - 48).toNat else (stS s k).2 j)
theorem st_dot {s : ByteArray} {k : Nat} (h : bb s k = 46) (h1 : (stS s k).1 < 2) : stS s (k + 1) = ((stS s k).1 + 1, (stS s k).2) := by rw [stS, if_pos ⟨h, h1⟩]
theorem st_dig {s : ByteArray} {k : Nat} (h : ¬ (bb s k = 46 ∧ (stS s k).1 < 2)) : stS s (k + 1) = ((stS s k).1, fun j => if j = (stS s k).1 then 10 * (stS s k).2 (stS s k).1 + (bb s k - 48).toNat else (stS s k).2 j) := by rw [stS, if_neg h]
theorem st_at (s : ByteArray) (k : Nat) : (stS s k).1 ≤ 2 := by
 induction k with
 | zero => exact Nat.zero_le _
 | succ k ih =>
  by_cases h : bb s k = 46 ∧ (stS s k).1 < 2
  ·rw [st_dot h.1 h.2]; exact h.2
  ·rw [st_dig h]; exact ih
theorem st_bound (s : ByteArray) (k : Nat) : ∀ j, (stS s k).2 j + 23 ≤ 23 * 10 ^ k := by
 induction k with
 | zero => intro j; exact Nat.le_refl _
 | succ k ih =>
  intro j
  have h1 := ih j
  have h2 := ih (stS s k).1
  have h3 := bb_ge s k
  rw [Nat.pow_succ]
  by_cases h : bb s k = 46 ∧ (stS s k).1 < 2
  ·rw [st_dot h.1 h.2]; show (stS s k).2 j + 23 ≤ _; omega
  ·rw [st_dig h]
   show (if j = (stS s k).1 then _ else _) + 23 ≤ _
   split <;> omega
theorem st_small (s : ByteArray) {k : Nat} (hk : k ≤ 10) (j : Nat) : (stS s k).2 j ≤ 230000000000 := by
 have h1 := st_bound s k j
 have h2 : 10 ^ k ≤ 10 ^ 10 := Nat.pow_le_pow_right (by omega) hk
 omega
def StP (s : ByteArray) (k a x y z : Nat) : Prop := (stS s k).1 = a ∧ (stS s k).2 0 = x ∧ (stS s k).2 1 = y ∧ (stS s k).2 2 = z
theorem stp_dot {s : ByteArray} {k a x y z : Nat} (h : StP s k a x y z) (hb : bb s k = 46) (ha : a < 2) : StP s (k + 1) (a + 1) x y z := by
 obtain ⟨h1, h2, h3, h4⟩ := h
 unfold StP
 rw [st_dot hb (by omega)]
 exact ⟨by rw [h1], h2, h3, h4⟩
theorem stp_dig {s : ByteArray} {k a x y z : Nat} (h : StP s k a x y z) (hb : bb s k ≠ 46) : StP s (k + 1) a (if 0 = a then 10 * x + dgt s k else x) (if 1 = a then 10 * y + dgt s k else y) (if 2 = a then 10 * z + dgt s k else z) := by
 obtain ⟨h1, h2, h3, h4⟩ := h
 unfold StP
 rw [st_dig (fun q => hb q.1)]
 refine ⟨h1, ?_, ?_, ?_⟩
 ·show (if 0 = (stS s k).1 then _ else _) = _
  rw [h1]; split
  ·next e => subst e; rw [h2]; rfl
  ·exact h2
 ·show (if 1 = (stS s k).1 then _ else _) = _
  rw [h1]; split
  ·next e => subst e; rw [h3]; rfl
  ·exact h3
 ·show (if 2 = (stS s k).1 then _ else _) = _
  rw [h1]; split
  ·next e => subst e; rw [h4]; rfl
  ·exact h4
theorem st_cn {s : ByteArray} (h : Cn s) : (stS s 4).1 = 0 ∧ (stS s 7).1 = 1 ∧ (stS s 10).2 0 = pY s ∧ (stS s 10).2 1 = pM s ∧ (stS s 10).2 2 = pD s := by
 have nd : ∀ j, j < 10 → j ≠ 4 → j ≠ 7 → bb s j ≠ 46 := fun j h1 h2 h3 e => by have := h.2.2.2 j h1 h2 h3; omega
 have p0 : StP s 0 0 0 0 0 := ⟨rfl, rfl, rfl, rfl⟩
 have p1 := stp_dig p0 (nd 0 (by omega) (by omega) (by omega))
 have p2 := stp_dig p1 (nd 1 (by omega) (by omega) (by omega))
 have p3 := stp_dig p2 (nd 2 (by omega) (by omega) (by omega))
 have p4 := stp_dig p3 (nd 3 (by omega) (by omega) (by omega))
 have p5 := stp_dot p4 h.2.1 (by omega)
 have p6 := stp_dig p5 (nd 5 (by omega) (by omega) (by omega))
 have p7 := stp_dig p6 (nd 6 (by omega) (by omega) (by omega))
 have p8 := stp_dot p7 h.2.2.1 (by omega)
 have p9 := stp_dig p8 (nd 8 (by omega) (by omega) (by omega))
 have p10 := stp_dig p9 (nd 9 (by omega) (by omega) (by omega))
 obtain ⟨_, q2, q3, q4⟩ := p10
 refine ⟨p4.1, p7.1, ?_, ?_, ?_⟩
 ·rw [q2]; unfold pY; simp; omega
 ·rw [q3]; unfold pM; simp; omega
 ·rw [q4]; unfold pD; simp; omega
theorem st_bad {s : ByteArray} {k : Nat} (hk : k < 10) (h1 : ¬ (bb s k = 46 ∧ (stS s k).1 < 2)) (h2 : ¬ (48 ≤ bb s k ∧ bb s k ≤ 57)) : rdD s = -1 := by
 refine rdD_no (fun hC => ?_)
 have hc := st_cn hC
 by_cases e4 : k = 4
 ·subst e4; exact h1 ⟨hC.2.1, by omega⟩
 ·by_cases e7 : k = 7
  ·subst e7; exact h1 ⟨hC.2.2.1, by omega⟩
  ·exact h2 (hC.2.2.2 k hk e4 e7)
theorem rd_nodate {s : ByteArray} (h : ¬ Dy ((stS s 10).2 0) ((stS s 10).2 1) ((stS s 10).2 2)) : rdD s = -1 := by
 by_cases hC : Cn s
 ·have hc := st_cn hC
  rw [rdD_yes hC, ← hc.2.2.1, ← hc.2.2.2.1, ← hc.2.2.2.2]
  exact dn_no h
 ·exact rdD_no hC
theorem rd_date {s t : ByteArray} (h : Dy ((stS s 10).2 0) ((stS s 10).2 1) ((stS s 10).2 2)) (hT : DayT (dnOf ((stS s 10).2 0) ((stS s 10).2 1) ((stS s 10).2 2)) t) : (t = s ∧ rdD s = dnOf ((stS s 10).2 0) ((stS s 10).2 1) ((stS s 10).2 2)) ∨ (t ≠ s ∧ rdD s = -1) := by
 have hp := dn_pos h
 unfold DayT at hT
 rw [if_pos (dayB_yes hp.1 hp.2)] at hT
 obtain ⟨y, m, r, hD, he, rfl⟩ := hT
 have hi := dn_inj hD h he
 by_cases hC : Cn s
 ·have hc := st_cn hC
  left
  have ey : y = pY s := by omega
  have em : m = pM s := by omega
  have er : r = pD s := by omega
  refine ⟨by rw [ey, em, er]; exact cn_dtx hC, ?_⟩
  rw [rdD_yes hC, ← hc.2.2.1, ← hc.2.2.2.1, ← hc.2.2.2.2]
 ·right
  exact ⟨fun e => hC (by rw [← e]; exact dtx_cn y m r), rdD_no hC⟩
def lC (l : Nat → Nat) (j : Nat) : Value := .int .i64 (l j : Int)
theorem lc_next {s : ByteArray} {k : Nat} (h : stS s (k + 1) = ((stS s k).1, fun j => if j = (stS s k).1 then 10 * (stS s k).2 (stS s k).1 + (bb s k - 48).toNat else (stS s k).2 j)) (hb : 48 ≤ bb s k) {a lv : Nat} (ha : (stS s k).1 = a) (hl : (stS s k).2 (stS s k).1 = lv) (j : Nat) : (if j = a then Value.int .i64 (10 * (lv : Int) + (bb s k - 48)) else lC (stS s k).2 j) = lC (stS s (k + 1)).2 j := by
 subst ha; subst hl
 rw [h]
 unfold lC
 show _ = Value.int .i64 (((if j = (stS s k).1 then 10 * (stS s k).2 (stS s k).1 + (bb s k - 48).toNat else (stS s k).2 j : Nat) : Nat) : Int)
 split
 ·congr 1; omega
 ·rfl
set_option maxHeartbeats 1600000 in
theorem specReadDate_any (s : ByteArray) (w : World) (_hs : s.size ≤ maxLen) : Calls Tryz.prog 85 #[.string s] w fun e w' => e = .returned (.int .i64 (rdD s)) ∧ Below w.heap.size w w' := by
 unfold maxLen at _hs
 have hbb := bb_eq s
 by_cases h10 : s.size = 10
 ·have e10 : ((s.size : Int) != 10) = false := by first | (simp [h10]; done) | (simp [h10]; omega)
  have o0 : Own (w.alloc (.cells #[.int .i64 0, .int .i64 0, .int .i64 0] 3)) w.heap.size 3 1 (some ⟨w.heap.size, 0, none⟩) 3 3 (lC (fun _ => 0)) := Own.lit w 3 1 3 _ _ (by simp only [maxLen]; omega) rfl
  have k0 : Below w.heap.size w (w.alloc (.cells #[.int .i64 0, .int .i64 0, .int .i64 0] 3)) := (Below.refl _ _).alloc (Nat.le_refl _) _
  have H10 := Lib.hid h10
  go_enter Tryz.func85, Tryz.ntmps85
  go_wp2_with fail
  go_loopw [4, 5] (fun a i wr => ∃ k : Nat, k ≤ 10 ∧ a = .int .i64 ((stS s k).1 : Int) ∧ i = .int .i64 k ∧ Own wr w.heap.size 3 1 (some ⟨w.heap.size, 0, none⟩) 3 3 (lC (stS s k).2) ∧ Below w.heap.size w wr) (fun _ i _ => 10 - (intOf i).toNat)
  case atStart => exact ⟨0, Nat.zero_le _, rfl, rfl, o0, k0⟩
  case round =>
   clear o0 k0 h10
   obtain ⟨k, hk, rfl, rfl, hown, hbl⟩ := hrel
   have hsz := hbl.size
   have hat := st_at s k
   have hsm := st_small s hk
   have hbg := bb_ge s k
   have hk0 : (0 : Int) ≤ (k : Int) := by omega
   by_cases hlt : k < 10
   ·have hki : (k : Int) < 10 := by omega
    have hks : (k : Int) < (s.size : Int) := by have := H10.out; omega
    have hksn : k < s.size := by have := H10.out; omega
    by_cases hdt : bb s k = 46 ∧ (stS s k).1 < 2
    ·have HN := Lib.hid (st_dot hdt.1 hdt.2)
     have g1 : (bb s k == 46) = true := beq_iff_eq.2 hdt.1
     have g2 : decide (((stS s k).1 : Int) < 2) = true := decide_eq_true (by have := hdt.2; omega)
     have g3 : ((stS s k).1 : Int) < 2 := by have := hdt.2; omega
     clear hdt
     go_wp2_with fail
     go_roundw
     case rel => exact ⟨k + 1, by omega, by rw [HN.out]; go_num, by go_num, by rw [HN.out]; exact hown, hbl⟩
     case measure => simp [intOf]; omega
    ·have HN := Lib.hid (st_dig hdt)
     by_cases hdg : 48 ≤ bb s k ∧ bb s k ≤ 57
     ·obtain ⟨hd1, hd2⟩ := hdg
      have g0 : (bb s k == 46) = false := beq_eq_false_iff_ne.2 (by omega)
      have g1 : decide (48 ≤ bb s k) = true := decide_eq_true hd1
      have g2 : decide (bb s k ≤ 57) = true := decide_eq_true hd2
      clear hdt
      have hfv := hown.frozen rfl (stS s k).1
      have hst := hown.set rfl (j := (stS s k).1) (.int .i64 (10 * ((stS s k).2 (stS s k).1 : Int) + (bb s k - 48)))
      have HS := Lib.hid hst
      have hlv := hsm (stS s k).1
      have hcv : wr.cell? ⟨w.heap.size, (stS s k).1, none⟩ = some (.int .i64 ((stS s k).2 (stS s k).1 : Int)) := hown.cell rfl (j := (stS s k).1) (by omega)
      have HN1 := Lib.hid (show (stS s (k + 1)).1 = (stS s k).1 by rw [HN.out])
      have HN2 := Lib.hid (fun j => lc_next HN.out hd1 rfl rfl j)
      clear HN
      generalize hl : (stS s k).2 (stS s k).1 = lv at *
      clear hl hst
      generalize ha : (stS s k).1 = a at *
      clear ha
      have ha3 : (a : Int) < 3 := by omega
      have ha0 : (0 : Int) ≤ (a : Int) := by omega
      go_wp2_with fail
      go_still_tail 14, (by kernel_rfl)
      go_wp2_with fail
      go_roundw
      case rel => exact ⟨k + 1, by omega, by rw [HN1.out], by go_num, Own.congr HS.out.1 (fun j _ => HN2.out j), (hbl.setCell (p := ⟨w.heap.size, a, none⟩) (Nat.le_refl _) _).drew⟩
      case measure => simp [intOf]; omega
     ·have HQ := Lib.hid (st_bad hlt hdt hdg)
      by_cases hd : bb s k = 46
      ·have g1 : (bb s k == 46) = true := beq_iff_eq.2 hd
       have g2 : decide (((stS s k).1 : Int) < 2) = false := decide_eq_false (fun q => hdt ⟨hd, by omega⟩)
       have g3 : decide (48 ≤ bb s k) = false := decide_eq_false (by omega)
       have g5 : (stS s k).1 = 2 := by
        apply Classical.byContradiction; intro q; exact hdt ⟨hd, by omega⟩
       clear hdt hdg
       go_wp2_with fail
       go_ret
       exact ⟨ret_int HQ.out.symm, hbl⟩
      ·have g1 : (bb s k == 46) = false := beq_eq_false_iff_ne.2 hd
       clear hdt
       by_cases h48 : 48 ≤ bb s k
       ·have g3 : decide (48 ≤ bb s k) = true := decide_eq_true h48
        have g4 : decide (bb s k ≤ 57) = false := decide_eq_false (fun q => hdg ⟨h48, q⟩)
        clear hdg
        go_wp2_with fail
        go_ret
        exact ⟨ret_int HQ.out.symm, hbl⟩
       ·have g3 : decide (48 ≤ bb s k) = false := decide_eq_false h48
        clear hdg
        go_wp2_with fail
        go_ret
        exact ⟨ret_int HQ.out.symm, hbl⟩
   ·obtain rfl : k = 10 := by omega
    have c0 : wr.cell? ⟨w.heap.size, 0, none⟩ = some (.int .i64 ((stS s 10).2 0 : Int)) := hown.cell rfl (j := 0) (by omega)
    have c1 : wr.cell? ⟨w.heap.size, 1, none⟩ = some (.int .i64 ((stS s 10).2 1 : Int)) := hown.cell rfl (j := 1) (by omega)
    have c2 : wr.cell? ⟨w.heap.size, 2, none⟩ = some (.int .i64 ((stS s 10).2 2 : Int)) := hown.cell rfl (j := 2) (by omega)
    have hcall := fun W => specDayNumber_b ((stS s 10).2 0) ((stS s 10).2 1) ((stS s 10).2 2) W
    by_cases hD : Dy ((stS s 10).2 0) ((stS s 10).2 1) ((stS s 10).2 2)
    ·have hp := dn_pos hD
     have HR := Lib.hid (fun t => rd_date (s := s) (t := t) hD)
     generalize hn : dnOf ((stS s 10).2 0) ((stS s 10).2 1) ((stS s 10).2 2) = n at *
     have g1 : decide (n < 0) = false := decide_eq_false (by omega)
     have HC := Lib.hid hcall
     clear hcall hn hown
     go_wp2_with fail
     go_still_tail 9, (by kernel_rfl)
     go_wp2_with fail
     refine (HC.out _).mono ?_
     rintro e w1 ⟨rfl, b1⟩
     have k1 : Below w.heap.size w w1 := hbl.drew.trans (b1.mono hsz)
     go_wp2_with fail
     refine (specDateText_t n w1).mono ?_
     rintro e w2 ⟨⟨t, rfl, hT⟩, b2⟩
     have k2 := k1.trans (b2.mono k1.size)
     rcases HR.out t hT with ⟨h1, h2⟩ | ⟨h1, h2⟩
     ·have q1 : (t.toList != s.toList) = false := by rw [h1]; simp
      have q2 : (t.toList == s.toList) = true := by rw [h1]; simp
      have HQ := Lib.hid h2
      clear h1 h2 HR hT
      go_wp2_with fail
      go_ret
      exact ⟨ret_int HQ.out.symm, k2⟩
     ·have q2 := ba_ne_list h1
      have q1 : (t.toList != s.toList) = true := by unfold bne; rw [q2]; rfl
      have HQ := Lib.hid h2
      clear h1 h2 HR hT
      go_wp2_with fail
      go_ret
      exact ⟨ret_int HQ.out.symm, k2⟩
    ·have HQ := Lib.hid (rd_nodate hD)
     rw [dn_no hD] at hcall
     have HC := Lib.hid hcall
     clear hcall hown
     go_wp2_with fail
     go_still_tail 9, (by kernel_rfl)
     go_wp2_with fail
     refine (HC.out _).mono ?_
     rintro e w1 ⟨rfl, b1⟩
     have k1 : Below w.heap.size w w1 := hbl.drew.trans (b1.mono hsz)
     go_wp2_with fail
     go_ret
     exact ⟨ret_int HQ.out.symm, k1⟩
 ·have e10 : ((s.size : Int) != 10) = true := by simp; omega
  have HQ := Lib.hid (rdD_no (s := s) (fun h => h10 h.1))
  clear h10
  go_enter Tryz.func85, Tryz.ntmps85
  go_wp2_with fail
  go_ret
  exact ⟨ret_int HQ.out.symm, Below.refl _ _⟩
end Go.Proofs.YtfnmlffpnmmcdaaGreatDoor
namespace Go.Proofs.YtfnmlffpnmmcdaaGreatDoor
set_option maxRecDepth 100000
open Go.RowKit
theorem ret_str {a b : ByteArray} (h : a = b) : Ending.returned (.string a) = .returned (.string b) := by rw [h]
theorem keepG {a b c : World} {row : Option Nat} {B : Nat} (h : a.grownBy b row) (k : Below B b c) (hB : a.heap.size ≤ B) : a.grownBy c row :=
 ⟨k.os.trans h.os, k.tape.trans h.tape, k.output.trans h.output, Nat.le_trans h.size k.size, fun i hi hne => (k.block i (by omega)).trans (h.block i hi hne)⟩
def dgB (n : Nat) : ByteArray := ⟨#[UInt8.ofNat (48 + n % 10)]⟩
def mloop (n : Nat) (s : ByteArray) : ByteArray := if n = 0 then s else mloop (n / 10) (dgB n ++ s)
termination_by n
decreasing_by omega
def mtext (k : Int) : ByteArray := if k ≤ 0 then ⟨#[109, 48]⟩ else ⟨#[109]⟩ ++ mloop k.toNat ByteArray.empty
theorem mtext_zero {k : Int} (h : k ≤ 0) : mtext k = ⟨#[109, 48]⟩ := if_pos h
theorem mtext_pos {k : Int} (h : ¬ k ≤ 0) : mtext k = ⟨#[109]⟩ ++ mloop k.toNat ByteArray.empty := if_neg h
theorem mloop_zero (s : ByteArray) : mloop 0 s = s := by rw [mloop]; simp
theorem mloop_step {n : Nat} (h : 0 < n) (s : ByteArray) : mloop n s = mloop (n / 10) (dgB n ++ s) := by rw [mloop, if_neg (by omega)]
theorem conv_one (w : World) (n : Nat) (c : Int) (hc : c = 48 + (n : Int) % 10) : (convert 40 9 (.slice (some ⟨w.heap.size, 0, none⟩) 1 1)).run Tryz.prog (w.alloc (.cells #[.int .u8 c] 5)) = .ok (.string (dgB n)) (w.alloc (.cells #[.int .u8 c] 5)) := by
 rw [run_convert_bytes_string _ 40 9 5 _ _ _ Tryz.underlying40 Tryz.underlying5 Tryz.underlying9]
 rw [run_bytesToString _ _ 1 1 [c] (run_loadCells_list _ _ [.int .u8 c] (fun j v hj => by
  match j, hj with
  | 0, hj =>
   simp only [List.getElem?_cons_zero, Option.some.injEq] at hj
   subst hj
   show World.cell? _ ⟨w.heap.size, 0, none⟩ = _
   rw [World.cell?_alloc_at _ _ _ _ rfl]; rfl))]
 congr 2
 subst hc
 simp only [List.foldl_cons, List.foldl_nil, dgB]
 rw [show (48 + (n : Int) % 10).toNat = 48 + n % 10 by omega]
 rfl
set_option maxHeartbeats 400000 in
theorem markText_any (k : Int) (w : World) (h0 : 0 ≤ k) (h1 : k ≤ 1000000000000) : Calls Tryz.prog 74 #[.int .i64 k] w fun e w' => e = .returned (.string (mtext k)) ∧ Below w.heap.size w w' := by
 by_cases hk : k ≤ 0
 ·obtain rfl : k = 0 := by omega
  have HT := Lib.hid (mtext_zero hk)
  clear h0 h1 hk
  go_enter Tryz.func74, Tryz.ntmps74
  go_wp2
  go_ret
  exact ⟨ret_str HT.out.symm, Below.refl _ _⟩
 ·have hd : decide (k ≤ 0) = false := by simp; omega
  have HT := Lib.hid (mtext_pos hk)
  obtain ⟨n0, rfl⟩ := Int.eq_ofNat_of_zero_le h0
  rw [Int.toNat_natCast] at HT
  go_enter Tryz.func74, Tryz.ntmps74
  go_wp2_with fail
  go_loopw [0, 3] (fun kk out wr => ∃ (n : Nat) (s : ByteArray), kk = .int .i64 n ∧ out = .string s ∧ n + s.size ≤ n0 ∧ Hid (mloop n s = mloop n0 ByteArray.empty) ∧ Below w.heap.size w wr) (fun kk _ _ => (intOf kk).toNat)
  case atStart => exact ⟨n0, _, rfl, rfl, by simp [ByteArray.size], Lib.hid rfl, Below.refl _ _⟩
  case round =>
   obtain ⟨n, s, rfl, rfl, hs, HM, hbl⟩ := hrel
   by_cases hn : 0 < n
   ·have hd2 : decide (0 < (n : Int)) = true := by simp; omega
    have hcv := conv_one wr n _ rfl
    have hsd : (dgB n).size = 1 := rfl
    have HN := Lib.hid ((mloop_step hn s).symm.trans HM.out)
    go_wp2_with fail
    go_roundw
    case rel => exact ⟨n / 10, dgB n ++ s, by simp, rfl, by rw [ByteArray.size_append, hsd]; omega, HN, hbl.trans ((Below.refl _ _).alloc hbl.size _)⟩
    case measure => simp [intOf]; omega
   ·obtain rfl : n = 0 := by omega
    go_wp2_with fail
    go_ret
    exact ⟨ret_str (by rw [HT.out, ← HM.out, mloop_zero]), hbl⟩
end Go.Proofs.YtfnmlffpnmmcdaaGreatDoor
namespace Go.Proofs.YtfnmlffpnmmcdaaGreatDoor
set_option maxRecDepth 100000
open Go.RowKit
theorem info_Item : (Tryz.prog.info? 69).map (fun i => (i.zero, i.size, i.bytes)) = some (some (.agg #[.string ByteArray.empty, .string ByteArray.empty, .string ByteArray.empty, .int .i64 0]), 4, 56) := by kernel_rfl
abbrev ElItem : Type := ByteArray × ByteArray × ByteArray × Int
def encItem (p : ElItem) : Nat → Value
 | 0 => Value.string (p.1)
 | 1 => Value.string (p.2.1)
 | 2 => Value.string (p.2.2.1)
 | _ => Value.int .i64 (p.2.2.2)
theorem encItem_one (p : ElItem) (i : Nat) : (encItem p i).oneCell' = true := by unfold encItem; split <;> rfl

theorem toItem_any (a : ByteArray) (b : ByteArray) (c : ByteArray) (d : Int) (w : World) : Calls Tryz.prog 94 #[.agg #[.string a, .string b, .string c, .int .i64 d]] w fun e w' => e = .returned (.agg #[.string a, .string b, .string c, .int .i64 d]) ∧ Below w.heap.size w w' := by
 go_enter Tryz.func94, Tryz.ntmps94
 go_wp2
 refine bodyPost_ret (v := .agg #[.string a, .string b, .string c, .int .i64 d]) (by simp [results, Tryz.results94, go_sem]) rfl ⟨rfl, ?_⟩
 repeat (first | exact Below.refl _ _ | refine Below.alloc ?_ (by simp; try omega) _ | refine Below.setCell ?_ (by simp; try omega) _)

theorem stood_Item : Tryz.prog.stoodInHeld 69 = false := by kernel_rfl
theorem guard_Item : Tryz.prog.eqGuardType Tryz.prog.depth 69 = false := by kernel_rfl
theorem eqIn_Item (a : ByteArray) (b : ByteArray) (c : ByteArray) (d : Int) (p : ByteArray) (q : ByteArray) (r : ByteArray) (s : Int) (w : World) : (Op.equalIn 10000 69 (.agg #[.string a, .string b, .string c, .int .i64 d]) (.agg #[.string p, .string q, .string r, .int .i64 s])).run Tryz.prog w = .ok (eqEl (α := ElItem) (a, b, c, d) (p, q, r, s)) w := by
 rw [run_equalIn_agg w 9999 69 _ _ (by rw [Program.fieldsOf, Tryz.underlying69]) stood_Item]
 simp only [Program.fieldsOf, Tryz.underlying69]
 simp [go_sem, Tryz.underlying9, Tryz.underlying3]
 by_cases h0 : a = p <;> by_cases h1 : b = q <;> by_cases h2 : c = r <;> by_cases h3 : d = s <;> simp [eqEl, ba_list, *]
theorem neq_Item (a : ByteArray) (b : ByteArray) (c : ByteArray) (d : Int) (p : ByteArray) (q : ByteArray) (r : ByteArray) (s : Int) (w : World) : (binOp .neq 69 (.agg #[.string a, .string b, .string c, .int .i64 d]) (.agg #[.string p, .string q, .string r, .int .i64 s])).run Tryz.prog w = .ok (.bool (!eqEl (α := ElItem) (a, b, c, d) (p, q, r, s))) w := by
 rw [run_neq_struct, eqIn_Item]; rfl
theorem eqItem_any (a : ByteArray) (b : ByteArray) (c : ByteArray) (d : Int) (p : ByteArray) (q : ByteArray) (r : ByteArray) (s : Int) (w : World) : Calls Tryz.prog 109 #[.agg #[.string a, .string b, .string c, .int .i64 d], .agg #[.string p, .string q, .string r, .int .i64 s]] w fun e w' => e = .returned (.bool (eqEl (α := ElItem) (a, b, c, d) (p, q, r, s))) ∧ Below w.heap.size w w' := by
 by_cases h0 : a = p
 ·have b0 : (a.toList == p.toList) = true := by rw [seq_eql]; simp [seq, h0]
  have b0n : (a.toList != p.toList) = false := by rw [seq_neq]; simp [seq, h0]
  by_cases h1 : b = q
  ·have b1 : (b.toList == q.toList) = true := by rw [seq_eql]; simp [seq, h1]
   have b1n : (b.toList != q.toList) = false := by rw [seq_neq]; simp [seq, h1]
   by_cases h2 : c = r
   ·have b2 : (c.toList == r.toList) = true := by rw [seq_eql]; simp [seq, h2]
    have b2n : (c.toList != r.toList) = false := by rw [seq_neq]; simp [seq, h2]
    by_cases h3 : d = s
    ·have b3 : (d != s) = false := by simp [h3]
     have HQ := Lib.hid (eqEl_true (α := ElItem) (show ((a, b, c, d) : ElItem) = (p, q, r, s) by simp [*]))
     clear h0 h1 h2 h3
     go_enter Tryz.func109, Tryz.ntmps109
     go_wp2
     go_ret
     exact ⟨ret_bool HQ.out.symm, (((Below.refl _ _).alloc (Nat.le_refl _) _).alloc (by simp) _)⟩
    ·have b3 : (d != s) = true := by simp [h3]
     have HQ := Lib.hid (eqEl_false (α := ElItem) (show ((a, b, c, d) : ElItem) ≠ (p, q, r, s) by simp [*]))
     clear h0 h1 h2 h3
     go_enter Tryz.func109, Tryz.ntmps109
     go_wp2
     go_ret
     exact ⟨ret_bool HQ.out.symm, (((Below.refl _ _).alloc (Nat.le_refl _) _).alloc (by simp) _)⟩
   ·have b2 : (c.toList == r.toList) = false := by rw [seq_eql]; simp [seq, h2]
    have b2n : (c.toList != r.toList) = true := by rw [seq_neq]; simp [seq, h2]
    have HQ := Lib.hid (eqEl_false (α := ElItem) (show ((a, b, c, d) : ElItem) ≠ (p, q, r, s) by simp [*]))
    clear h0 h1 h2
    go_enter Tryz.func109, Tryz.ntmps109
    go_wp2
    go_ret
    exact ⟨ret_bool HQ.out.symm, (((Below.refl _ _).alloc (Nat.le_refl _) _).alloc (by simp) _)⟩
  ·have b1 : (b.toList == q.toList) = false := by rw [seq_eql]; simp [seq, h1]
   have b1n : (b.toList != q.toList) = true := by rw [seq_neq]; simp [seq, h1]
   have HQ := Lib.hid (eqEl_false (α := ElItem) (show ((a, b, c, d) : ElItem) ≠ (p, q, r, s) by simp [*]))
   clear h0 h1
   go_enter Tryz.func109, Tryz.ntmps109
   go_wp2
   go_ret
   exact ⟨ret_bool HQ.out.symm, (((Below.refl _ _).alloc (Nat.le_refl _) _).alloc (by simp) _)⟩
 ·have b0 : (a.toList == p.toList) = false := by rw [seq_eql]; simp [seq, h0]
  have b0n : (a.toList != p.toList) = true := by rw [seq_neq]; simp [seq, h0]
  have HQ := Lib.hid (eqEl_false (α := ElItem) (show ((a, b, c, d) : ElItem) ≠ (p, q, r, s) by simp [*]))
  clear h0
  go_enter Tryz.func109, Tryz.ntmps109
  go_wp2
  go_ret
  exact ⟨ret_bool HQ.out.symm, (((Below.refl _ _).alloc (Nat.le_refl _) _).alloc (by simp) _)⟩
theorem toItemS_any (A : Option Addr) (cap B : Nat) (xs : List ElItem) (w : World) (h : RdE 4 encItem w B A xs) (hB : B ≤ w.heap.size) (hl : xs.length ≤ 1048576) :
    Calls Tryz.prog 44 #[.slice A xs.length cap] w fun e w' => ∃ A' : Option Addr, e = .returned (.slice A' xs.length xs.length) ∧ OwnE 4 encItem 69 w' w.heap.size A' xs.length xs ∧ Below w.heap.size w w' := by
 have hmk := mk_run (P := Tryz.prog) 30 69 _ _ _ Tryz.underlying30 info_Item xs.length (by omega) (by omega)
 go_enter Tryz.func44, Tryz.ntmps44
 go_wp2_with fail
 have hst := Own.made w 69 4 xs.length #[.string ByteArray.empty, .string ByteArray.empty, .string ByteArray.empty, .int .i64 0] encItem (by simp only [maxLen]; omega) rfl (fun i hi => by rcases (by omega : i = 0 ∨ i = 1 ∨ i = 2 ∨ i = 3) with rfl | rfl | rfl | rfl <;> rfl)
 go_loopw [4] (fun i wr => ∃ k : Nat, k ≤ xs.length ∧ i = .int .i64 k ∧ Own wr w.heap.size 69 4 (some ⟨w.heap.size, 0, none⟩) xs.length xs.length (cE 4 encItem (xs.take k)) ∧ Below w.heap.size w wr) (fun i _ => xs.length - (intOf i).toNat)
 case atStart => exact ⟨0, Nat.zero_le _, rfl, hst, (Below.refl _ _).alloc (Nat.le_refl _) _⟩
 case round =>
  clear hst
  obtain ⟨k, hk, rfl, hown, hbl⟩ := hrel
  by_cases hlt : k < xs.length
  ·obtain ⟨b, off, rfl, hb, hc⟩ := (h.below (hbl.mono hB)).at_ (by omega)
   have c0 : wr.cell? ⟨b, off + k * 4, none⟩ = some (Value.string ((gt xs k).1)) := hc k 0 (by omega) (by omega)
   have c1 : wr.cell? ⟨b, off + k * 4 + 1, none⟩ = some (Value.string ((gt xs k).2.1)) := hc k 1 (by omega) (by omega)
   have c2 : wr.cell? ⟨b, off + k * 4 + 2, none⟩ = some (Value.string ((gt xs k).2.2.1)) := hc k 2 (by omega) (by omega)
   have c3 : wr.cell? ⟨b, off + k * 4 + 3, none⟩ = some (Value.int .i64 ((gt xs k).2.2.2)) := hc k 3 (by omega) (by omega)
   clear hc
   go_wp2_with fail
   refine (toItem_any _ _ _ _ _).mono ?_
   rintro e w1 ⟨rfl, hb1⟩
   have hown1 := Own.below hown hb1
   have d0 := hown1.cell rfl (j := k * 4) (by omega)
   have e0 := hown1.frozen rfl (k * 4)
   have d1 := hown1.cell rfl (j := k * 4 + 1) (by omega)
   have e1 := hown1.frozen rfl (k * 4 + 1)
   have d2 := hown1.cell rfl (j := k * 4 + 2) (by omega)
   have e2 := hown1.frozen rfl (k * 4 + 2)
   have d3 := hown1.cell rfl (j := k * 4 + 3) (by omega)
   have e3 := hown1.frozen rfl (k * 4 + 3)
   have s0 := (hown1).set rfl (j := k * 4) (Value.string ((gt xs k).1))
   have s1 := (s0.1).set rfl (j := k * 4 + 1) (Value.string ((gt xs k).2.1))
   have s2 := (s1.1).set rfl (j := k * 4 + 2) (Value.string ((gt xs k).2.2.1))
   have s3 := (s2.1).set rfl (j := k * 4 + 3) (Value.int .i64 ((gt xs k).2.2.2))
   have HS := Lib.hid s3.1
   have HG := Lib.hid ((((s0.2).trans s1.2).trans s2.2).trans s3.2)
   have HX := Lib.hid (hbl.trans (hb1.mono hbl.size))
   have hsz := Nat.le_trans hbl.size hb1.size
   clear s0 s1 s2 s3 hown hown1 hbl hb1
   go_wp2_with fail
   go_roundw
   case rel => exact ⟨k + 1, by omega, by go_num, Own.congr HS.out (fun j _ => by
       rw [cE_take_step encItem]
       exact set_cells_4 k j _ _ _ _ rfl rfl rfl rfl), HX.out.trans (grown_below HG.out (fun b hb => by simp [blk] at hb; omega) hsz)⟩
   case measure => simp [intOf]; omega
  ·obtain rfl : k = xs.length := by omega
   go_wp2_with fail
   go_ret
   rw [List.take_of_length_le (Nat.le_refl _)] at hown
   exact ⟨_, rfl, hown, hbl⟩
theorem eqItemS_any (A A' : Option Addr) (cap cap' B : Nat) (xs ys : List ElItem) (w : World) (h : RdE 4 encItem w B A xs) (h' : RdE 4 encItem w B A' ys) (hB : B ≤ w.heap.size) (hl : xs.length ≤ 140737488351232) (hl' : ys.length ≤ 140737488351232) :
    Calls Tryz.prog 55 #[.slice A xs.length cap, .slice A' ys.length cap'] w fun e w' => e = .returned (.bool (sameB xs ys)) ∧ Below w.heap.size w w' := by
 by_cases hlen : xs.length = ys.length
 ·have HL := Lib.hid hlen
  have hd : ((xs.length : Int) != (ys.length : Int)) = false := by rw [hlen]; simp
  have hle : xs.length ≤ ys.length := by omega
  clear hlen
  go_enter Tryz.func55, Tryz.ntmps55
  go_wp2_with fail
  go_loopw [5] (fun i wr => ∃ k : Nat, k ≤ xs.length ∧ Hid (∀ j, j < k → gt xs j = gt ys j) ∧ i = .int .i64 k ∧ Below w.heap.size w wr) (fun i _ => xs.length - (intOf i).toNat)
  case atStart => exact ⟨0, Nat.zero_le _, Lib.hid (fun j hj => absurd hj (by omega)), rfl, Below.refl _ _⟩
  case round =>
   obtain ⟨k, hk, HO, rfl, hbl⟩ := hrel
   by_cases hlt : k < xs.length
   ·obtain ⟨b, off, rfl, hb, hc⟩ := (h.below (hbl.mono hB)).at_ (by omega)
    obtain ⟨b', off', rfl, hb', hc'⟩ := (h'.below (hbl.mono hB)).at_ (by omega)
    have c0 : wr.cell? ⟨b, off + k * 4, none⟩ = some (Value.string ((gt xs k).1)) := hc k 0 (by omega) (by omega)
    have c1 : wr.cell? ⟨b, off + k * 4 + 1, none⟩ = some (Value.string ((gt xs k).2.1)) := hc k 1 (by omega) (by omega)
    have c2 : wr.cell? ⟨b, off + k * 4 + 2, none⟩ = some (Value.string ((gt xs k).2.2.1)) := hc k 2 (by omega) (by omega)
    have c3 : wr.cell? ⟨b, off + k * 4 + 3, none⟩ = some (Value.int .i64 ((gt xs k).2.2.2)) := hc k 3 (by omega) (by omega)
    have d0 : wr.cell? ⟨b', off' + k * 4, none⟩ = some (Value.string ((gt ys k).1)) := hc' k 0 (by omega) (by omega)
    have d1 : wr.cell? ⟨b', off' + k * 4 + 1, none⟩ = some (Value.string ((gt ys k).2.1)) := hc' k 1 (by omega) (by omega)
    have d2 : wr.cell? ⟨b', off' + k * 4 + 2, none⟩ = some (Value.string ((gt ys k).2.2.1)) := hc' k 2 (by omega) (by omega)
    have d3 : wr.cell? ⟨b', off' + k * 4 + 3, none⟩ = some (Value.int .i64 ((gt ys k).2.2.2)) := hc' k 3 (by omega) (by omega)
    have hlt' : k < ys.length := by omega
    clear hc hc'
    by_cases hne : gt xs k = gt ys k
    ·have hn : eqEl (α := ElItem) ((gt xs k).1, (gt xs k).2.1, (gt xs k).2.2.1, (gt xs k).2.2.2) ((gt ys k).1, (gt ys k).2.1, (gt ys k).2.2.1, (gt ys k).2.2.2) = true := eqEl_true hne
     have HN := Lib.hid hne; clear hne
     go_wp2_with fail
     go_still_tail 8, (by kernel_rfl)
     go_wp2_with (go_at_call 109; refine (eqItem_any _ _ _ _ _ _ _ _ _).mono ?_; rintro e w1 ⟨rfl, hb1⟩)
     go_roundw
     case rel => exact ⟨k + 1, by omega, Lib.hid (fun j hj => by
      rcases Nat.lt_succ_iff_lt_or_eq.1 hj with h1 | rfl
      ·exact HO.out j h1
      ·exact HN.out), by go_num, hbl.trans ((below_drew1 _).trans hb1 |> (·.mono hbl.size))⟩
     case measure => simp [intOf]; omega
    ·have hn : eqEl (α := ElItem) ((gt xs k).1, (gt xs k).2.1, (gt xs k).2.2.1, (gt xs k).2.2.2) ((gt ys k).1, (gt ys k).2.1, (gt ys k).2.2.1, (gt ys k).2.2.2) = false := eqEl_false hne
     have HN := Lib.hid hne; clear hne
     go_wp2_with fail
     go_still_tail 8, (by kernel_rfl)
     go_wp2_with (go_at_call 109; refine (eqItem_any _ _ _ _ _ _ _ _ _).mono ?_; rintro e w1 ⟨rfl, hb1⟩)
     go_ret
     exact ⟨ret_bool (sameB_at HN.out).symm, hbl.trans ((below_drew1 _).trans hb1 |> (·.mono hbl.size))⟩
   ·obtain rfl : k = xs.length := by omega
    go_wp2_with fail
    go_ret
    exact ⟨ret_bool (sameB_true HL.out HO.out).symm, hbl⟩
 ·have hd : ((xs.length : Int) != (ys.length : Int)) = true := by simp; omega
  go_enter Tryz.func55, Tryz.ntmps55
  go_wp2_with fail
  go_ret
  exact ⟨ret_bool (sameB_len hlen).symm, Below.refl _ _⟩
theorem sameFeed_any (A A' : Option Addr) (cap cap' B : Nat) (xs ys : List ElItem) (w : World) (h : RdE 4 encItem w B A xs) (h' : RdE 4 encItem w B A' ys) (hB : B ≤ w.heap.size) (hl : xs.length ≤ 140737488351232) (hl' : ys.length ≤ 140737488351232) :
    Calls Tryz.prog 20 #[.slice A xs.length cap, .slice A' ys.length cap'] w fun e w' => e = .returned (.bool (sameB xs ys)) ∧ Below w.heap.size w w' := by
 by_cases hlen : xs.length = ys.length
 ·have HL := Lib.hid hlen
  have hd : ((xs.length : Int) != (ys.length : Int)) = false := by rw [hlen]; simp
  have hle : xs.length ≤ ys.length := by omega
  clear hlen
  go_enter Tryz.func20, Tryz.ntmps20
  go_wp2_with fail
  go_loopw [5] (fun i wr => ∃ k : Nat, k ≤ xs.length ∧ Hid (∀ j, j < k → gt xs j = gt ys j) ∧ i = .int .i64 k ∧ Below w.heap.size w wr) (fun i _ => xs.length - (intOf i).toNat)
  case atStart => exact ⟨0, Nat.zero_le _, Lib.hid (fun j hj => absurd hj (by omega)), rfl, Below.refl _ _⟩
  case round =>
   obtain ⟨k, hk, HO, rfl, hbl⟩ := hrel
   by_cases hlt : k < xs.length
   ·obtain ⟨b, off, rfl, hb, hc⟩ := (h.below (hbl.mono hB)).at_ (by omega)
    obtain ⟨b', off', rfl, hb', hc'⟩ := (h'.below (hbl.mono hB)).at_ (by omega)
    have c0 : wr.cell? ⟨b, off + k * 4, none⟩ = some (Value.string ((gt xs k).1)) := hc k 0 (by omega) (by omega)
    have c1 : wr.cell? ⟨b, off + k * 4 + 1, none⟩ = some (Value.string ((gt xs k).2.1)) := hc k 1 (by omega) (by omega)
    have c2 : wr.cell? ⟨b, off + k * 4 + 2, none⟩ = some (Value.string ((gt xs k).2.2.1)) := hc k 2 (by omega) (by omega)
    have c3 : wr.cell? ⟨b, off + k * 4 + 3, none⟩ = some (Value.int .i64 ((gt xs k).2.2.2)) := hc k 3 (by omega) (by omega)
    have d0 : wr.cell? ⟨b', off' + k * 4, none⟩ = some (Value.string ((gt ys k).1)) := hc' k 0 (by omega) (by omega)
    have d1 : wr.cell? ⟨b', off' + k * 4 + 1, none⟩ = some (Value.string ((gt ys k).2.1)) := hc' k 1 (by omega) (by omega)
    have d2 : wr.cell? ⟨b', off' + k * 4 + 2, none⟩ = some (Value.string ((gt ys k).2.2.1)) := hc' k 2 (by omega) (by omega)
    have d3 : wr.cell? ⟨b', off' + k * 4 + 3, none⟩ = some (Value.int .i64 ((gt ys k).2.2.2)) := hc' k 3 (by omega) (by omega)
    have hlt' : k < ys.length := by omega
    clear hc hc'
    by_cases hne : gt xs k = gt ys k
    ·have hn : eqEl (α := ElItem) ((gt xs k).1, (gt xs k).2.1, (gt xs k).2.2.1, (gt xs k).2.2.2) ((gt ys k).1, (gt ys k).2.1, (gt ys k).2.2.1, (gt ys k).2.2.2) = true := eqEl_true hne
     have HN := Lib.hid hne; clear hne
     go_wp2_with fail
     have hneq := fun w' => neq_Item (gt xs k).1 (gt xs k).2.1 (gt xs k).2.2.1 (gt xs k).2.2.2 (gt ys k).1 (gt ys k).2.1 (gt ys k).2.2.1 (gt ys k).2.2.2 w'
     have hgd := guard_Item
     go_quiet (fail)
     go_wp2_with fail
     go_roundw
     case rel => exact ⟨k + 1, by omega, Lib.hid (fun j hj => by
      rcases Nat.lt_succ_iff_lt_or_eq.1 hj with h1 | rfl
      ·exact HO.out j h1
      ·exact HN.out), by go_num, hbl.trans (below_drewN (Below.refl _ _) _)⟩
     case measure => simp [intOf]; omega
    ·have hn : eqEl (α := ElItem) ((gt xs k).1, (gt xs k).2.1, (gt xs k).2.2.1, (gt xs k).2.2.2) ((gt ys k).1, (gt ys k).2.1, (gt ys k).2.2.1, (gt ys k).2.2.2) = false := eqEl_false hne
     have HN := Lib.hid hne; clear hne
     go_wp2_with fail
     have hneq := fun w' => neq_Item (gt xs k).1 (gt xs k).2.1 (gt xs k).2.2.1 (gt xs k).2.2.2 (gt ys k).1 (gt ys k).2.1 (gt ys k).2.2.1 (gt ys k).2.2.2 w'
     have hgd := guard_Item
     go_quiet (fail)
     go_wp2_with fail
     go_ret
     exact ⟨ret_bool (sameB_at HN.out).symm, hbl.trans (below_drewN (Below.refl _ _) _)⟩
   ·obtain rfl : k = xs.length := by omega
    go_wp2_with fail
    go_ret
    exact ⟨ret_bool (sameB_true HL.out HO.out).symm, hbl⟩
 ·have hd : ((xs.length : Int) != (ys.length : Int)) = true := by simp; omega
  go_enter Tryz.func20, Tryz.ntmps20
  go_wp2_with fail
  go_ret
  exact ⟨ret_bool (sameB_len hlen).symm, Below.refl _ _⟩
def mkItem (k : Int) (j : Nat) : Value :=
 match j % 4 with
 | 0 => Value.string (mtext (k + j))
 | 1 => Value.string (mtext (k + j))
 | 2 => Value.string (mtext (k + j))
 | _ => Value.int .i64 (k + j)
theorem mkItem_0 (k : Int) (j : Nat) : mkItem k (j * 4) = Value.string (mtext (k + (j : Int) * 4)) := by
 unfold mkItem
 rw [show (j * 4) % 4 = 0 by omega, show (k + ((j * 4 : Nat) : Int)) = k + (j : Int) * 4 by omega]
 rfl
theorem mkItem_1 (k : Int) (j : Nat) : mkItem k (j * 4 + 1) = Value.string (mtext (k + (j : Int) * 4 + 1)) := by
 unfold mkItem
 rw [show (j * 4 + 1) % 4 = 1 by omega, show (k + ((j * 4 + 1 : Nat) : Int)) = k + (j : Int) * 4 + 1 by omega]
 rfl
theorem mkItem_2 (k : Int) (j : Nat) : mkItem k (j * 4 + 2) = Value.string (mtext (k + (j : Int) * 4 + 1 + 1)) := by
 unfold mkItem
 rw [show (j * 4 + 2) % 4 = 2 by omega, show (k + ((j * 4 + 2 : Nat) : Int)) = k + (j : Int) * 4 + 1 + 1 by omega]
 rfl
theorem mkItem_3 (k : Int) (j : Nat) : mkItem k (j * 4 + 3) = Value.int .i64 (k + (j : Int) * 4 + 1 + 1 + 1) := by
 unfold mkItem
 rw [show (j * 4 + 3) % 4 = 3 by omega, show (k + ((j * 4 + 3 : Nat) : Int)) = k + (j : Int) * 4 + 1 + 1 + 1 by omega]
 rfl
theorem markItemS_any (base : Nat) (A : Option Addr) (n cap : Nat) (f : Nat → Value) (k : Int) (w : World) (h : Own w base 69 4 A n cap f) (hn : n ≤ 1048576) (hk0 : 0 ≤ k) (hk : k ≤ 33554432) :
    Calls Tryz.prog 57 #[.slice A n cap, .int .i64 k] w fun e w' => e = .returned (.int .i64 (k + (n : Int) * 4)) ∧ Own w' base 69 4 A n cap (mkItem k) ∧ w.grownBy w' (blk A) := by
 go_enter Tryz.func57, Tryz.ntmps57
 go_wp2_with fail
 go_loopw [1, 5] (fun q i wr => ∃ j : Nat, j ≤ n ∧ q = .int .i64 (k + (j : Int) * 4) ∧ i = .int .i64 j ∧ Own wr base 69 4 A n cap (fun x => if x < j * 4 then mkItem k x else f x) ∧ w.grownBy wr (blk A)) (fun _ i _ => n - (intOf i).toNat)
 case atStart => exact ⟨0, Nat.zero_le _, by simp, rfl, by simpa using h, World.grownBy.refl _ _⟩
 case round =>
  obtain ⟨j, hj, rfl, rfl, hown, hgr⟩ := hrel
  by_cases hlt : j < n
  ·rcases hown.shape with ⟨_, h0, _⟩ | ⟨b, hA, hb, hbs, _⟩
   ·omega
   ·subst hA
    go_wp2_with fail
    refine (markText_any _ _ (by omega) (by omega)).mono ?_
    rintro e v0 ⟨rfl, hb0⟩
    have o0 := Own.below (hown) hb0
    have g0 := keepG (hgr) hb0 (hgr).size
    have c0_0 := o0.cell rfl (j := j * 4) (by omega)
    have f0_0 := o0.frozen rfl (j * 4)
    have c0_1 := o0.cell rfl (j := j * 4 + 1) (by omega)
    have f0_1 := o0.frozen rfl (j * 4 + 1)
    have c0_2 := o0.cell rfl (j := j * 4 + 2) (by omega)
    have f0_2 := o0.frozen rfl (j * 4 + 2)
    have c0_3 := o0.cell rfl (j := j * 4 + 3) (by omega)
    have f0_3 := o0.frozen rfl (j * 4 + 3)
    have s0 := (o0).set rfl (j := j * 4) (Value.string (mtext (k + (j : Int) * 4)))
    have HS0 := Lib.hid (s0.1)
    have HG0 := Lib.hid ((g0).trans s0.2)
    clear s0 o0 g0 hown hgr
    go_wp2_with fail
    refine (markText_any _ _ (by omega) (by omega)).mono ?_
    rintro e v1 ⟨rfl, hb1⟩
    have o1 := Own.below (HS0.out) hb1
    have g1 := keepG (HG0.out) hb1 (HG0.out).size
    have c1_1 := o1.cell rfl (j := j * 4 + 1) (by omega)
    have f1_1 := o1.frozen rfl (j * 4 + 1)
    have c1_2 := o1.cell rfl (j := j * 4 + 2) (by omega)
    have f1_2 := o1.frozen rfl (j * 4 + 2)
    have c1_3 := o1.cell rfl (j := j * 4 + 3) (by omega)
    have f1_3 := o1.frozen rfl (j * 4 + 3)
    have s1 := (o1).set rfl (j := j * 4 + 1) (Value.string (mtext (k + (j : Int) * 4 + 1)))
    have HS1 := Lib.hid (s1.1)
    have HG1 := Lib.hid ((g1).trans s1.2)
    clear s1 o1 g1
    go_wp2_with fail
    refine (markText_any _ _ (by omega) (by omega)).mono ?_
    rintro e v2 ⟨rfl, hb2⟩
    have o2 := Own.below (HS1.out) hb2
    have g2 := keepG (HG1.out) hb2 (HG1.out).size
    have c2_2 := o2.cell rfl (j := j * 4 + 2) (by omega)
    have f2_2 := o2.frozen rfl (j * 4 + 2)
    have c2_3 := o2.cell rfl (j := j * 4 + 3) (by omega)
    have f2_3 := o2.frozen rfl (j * 4 + 3)
    have s2 := (o2).set rfl (j := j * 4 + 2) (Value.string (mtext (k + (j : Int) * 4 + 1 + 1)))
    have s3 := (s2.1).set rfl (j := j * 4 + 3) (Value.int .i64 (k + (j : Int) * 4 + 1 + 1 + 1))
    have HS3 := Lib.hid (s3.1)
    have HG3 := Lib.hid (((g2).trans s2.2).trans s3.2)
    clear s2 s3 o2 g2
    have HS := HS3
    have HG := HG3
    clear HS3 HG3
    go_wp2_with fail
    go_roundw
    case rel => exact ⟨j + 1, by omega, by go_num, by go_num, Own.congr HS.out (fun x _ => mark_cells_4 j x _ _ _ _ (mkItem_0 k j) (mkItem_1 k j) (mkItem_2 k j) (mkItem_3 k j)), HG.out⟩
    case measure => simp [intOf]; omega
  ·obtain rfl : j = n := by omega
   go_wp2_with fail
   go_ret
   exact ⟨rfl, Own.congr hown (fun x hx => by rw [if_pos hx]), hgr⟩
theorem heldItemS_any (B : Nat) (A : Option Addr) (n cap : Nat) (k : Int) (w : World) (h : Rd w B 4 A n (mkItem k)) (hB : B ≤ w.heap.size) (hn : n ≤ 1048576) (hk0 : 0 ≤ k) (hk : k ≤ 33554432) :
    Calls Tryz.prog 59 #[.slice A n cap, .int .i64 k] w fun e w' => e = .returned (.int .i64 (k + (n : Int) * 4)) ∧ Below w.heap.size w w' := by
 go_enter Tryz.func59, Tryz.ntmps59
 go_wp2_with fail
 go_loopw [1, 5] (fun q i wr => ∃ j : Nat, j ≤ n ∧ q = .int .i64 (k + (j : Int) * 4) ∧ i = .int .i64 j ∧ Below w.heap.size w wr) (fun _ i _ => n - (intOf i).toNat)
 case atStart => exact ⟨0, Nat.zero_le _, by simp, rfl, Below.refl _ _⟩
 case round =>
  obtain ⟨j, hj, rfl, rfl, hbl⟩ := hrel
  by_cases hlt : j < n
  ·obtain ⟨b, off, rfl, hb, hc⟩ := (h.below (hbl.mono hB)) (by omega)
   have c0 := hc (j * 4) (by omega)
   rw [mkItem_0] at c0
   have c1 := hc (j * 4 + 1) (by omega)
   rw [mkItem_1] at c1
   rw [← Nat.add_assoc] at c1
   have c2 := hc (j * 4 + 2) (by omega)
   rw [mkItem_2] at c2
   rw [← Nat.add_assoc] at c2
   have c3 := hc (j * 4 + 3) (by omega)
   rw [mkItem_3] at c3
   rw [← Nat.add_assoc] at c3
   have q3 : ((k + (j : Int) * 4 + 1 + 1 + 1 : Int) != k + (j : Int) * 4 + 1 + 1 + 1) = false := by simp
   have hbs : b < wr.heap.size := by have := hbl.size; omega
   clear hc
   go_wp2_with fail
   have dc0_0 : (wr.drew).cell? ⟨b, off + j * 4, none⟩ = some (Value.string (mtext (k + (j : Int) * 4))) := c0
   have dc0_1 : (wr.drew).cell? ⟨b, off + j * 4 + 1, none⟩ = some (Value.string (mtext (k + (j : Int) * 4 + 1))) := c1
   have dc0_2 : (wr.drew).cell? ⟨b, off + j * 4 + 2, none⟩ = some (Value.string (mtext (k + (j : Int) * 4 + 1 + 1))) := c2
   have dc0_3 : (wr.drew).cell? ⟨b, off + j * 4 + 3, none⟩ = some (Value.int .i64 (k + (j : Int) * 4 + 1 + 1 + 1)) := c3
   have hbd0 : b < (wr.drew).heap.size := by assumption
   have hld0 := hbl.drew
   have hlz0 : w.heap.size ≤ (wr.drew).heap.size := hld0.size
   clear c0 c1 c2 c3
   go_region_held3 (fun w' => w'.cell? ⟨b, off + j * 4, none⟩ = some (Value.string (mtext (k + (j : Int) * 4)))) (first | exact dc0_0 | exact n0_0 | go_keep) (first | (go_at_call 74; refine (markText_any _ _ (by omega) (by omega)).mono ?_; rintro e v0 ⟨rfl, hb0⟩; have n0_0 := (hb0.cell hbd0).trans dc0_0; have n0_1 := (hb0.cell hbd0).trans dc0_1; have n0_2 := (hb0.cell hbd0).trans dc0_2; have n0_3 := (hb0.cell hbd0).trans dc0_3; have hbs0 : b < v0.heap.size := Nat.lt_of_lt_of_le hbd0 hb0.size; have hl0 := hld0.trans (hb0.mono hlz0)))
   go_wp2_with fail
   have dc1_1 : (v0.drew).cell? ⟨b, off + j * 4 + 1, none⟩ = some (Value.string (mtext (k + (j : Int) * 4 + 1))) := n0_1
   have dc1_2 : (v0.drew).cell? ⟨b, off + j * 4 + 2, none⟩ = some (Value.string (mtext (k + (j : Int) * 4 + 1 + 1))) := n0_2
   have dc1_3 : (v0.drew).cell? ⟨b, off + j * 4 + 3, none⟩ = some (Value.int .i64 (k + (j : Int) * 4 + 1 + 1 + 1)) := n0_3
   have hbd1 : b < (v0.drew).heap.size := by assumption
   have hld1 := hl0.drew
   have hlz1 : w.heap.size ≤ (v0.drew).heap.size := hld1.size
   clear n0_1 n0_2 n0_3
   go_region_held3 (fun w' => w'.cell? ⟨b, off + j * 4 + 1, none⟩ = some (Value.string (mtext (k + (j : Int) * 4 + 1)))) (first | exact dc1_1 | exact n1_1 | go_keep) (first | (go_at_call 74; refine (markText_any _ _ (by omega) (by omega)).mono ?_; rintro e v1 ⟨rfl, hb1⟩; have n1_1 := (hb1.cell hbd1).trans dc1_1; have n1_2 := (hb1.cell hbd1).trans dc1_2; have n1_3 := (hb1.cell hbd1).trans dc1_3; have hbs1 : b < v1.heap.size := Nat.lt_of_lt_of_le hbd1 hb1.size; have hl1 := hld1.trans (hb1.mono hlz1)))
   go_wp2_with fail
   have dc2_2 : (v1.drew).cell? ⟨b, off + j * 4 + 2, none⟩ = some (Value.string (mtext (k + (j : Int) * 4 + 1 + 1))) := n1_2
   have dc2_3 : (v1.drew).cell? ⟨b, off + j * 4 + 3, none⟩ = some (Value.int .i64 (k + (j : Int) * 4 + 1 + 1 + 1)) := n1_3
   have hbd2 : b < (v1.drew).heap.size := by assumption
   have hld2 := hl1.drew
   have hlz2 : w.heap.size ≤ (v1.drew).heap.size := hld2.size
   clear n1_2 n1_3
   go_region_held3 (fun w' => w'.cell? ⟨b, off + j * 4 + 2, none⟩ = some (Value.string (mtext (k + (j : Int) * 4 + 1 + 1)))) (first | exact dc2_2 | exact n2_2 | go_keep) (first | (go_at_call 74; refine (markText_any _ _ (by omega) (by omega)).mono ?_; rintro e v2 ⟨rfl, hb2⟩; have n2_2 := (hb2.cell hbd2).trans dc2_2; have n2_3 := (hb2.cell hbd2).trans dc2_3; have hbs2 : b < v2.heap.size := Nat.lt_of_lt_of_le hbd2 hb2.size; have hl2 := hld2.trans (hb2.mono hlz2)))
   go_wp2_with fail
   have hbl := hl2
   go_roundw
   case rel => exact ⟨j + 1, by omega, by go_num, by go_num, hbl⟩
   case measure => simp [intOf]; omega
  ·obtain rfl : j = n := by omega
   go_wp2_with fail
   go_ret
   exact ⟨rfl, hbl⟩
def byItem (x : ElItem) : Nat := x.1.size + x.2.1.size + x.2.2.1.size
def totItem (xs : List ElItem) : Nat := xs.length + (xs.map byItem).sum
def byToItem (xs : List ElItem) (k : Nat) : Nat := ((xs.take k).map byItem).sum
theorem sum_leItem (xs : List ElItem) (k : Nat) : byToItem xs k ≤ (xs.map byItem).sum := by
 unfold byToItem
 conv => rhs; rw [← List.take_append_drop k xs, List.map_append, List.sum_append]
 omega
theorem sum_stepItem {xs : List ElItem} {k : Nat} (h : k < xs.length) : byToItem xs (k + 1) = byToItem xs k + byItem (gt xs k) := by
 unfold byToItem
 rw [take_snoc h, List.map_append, List.sum_append]; simp
theorem byTo_zeroItem (xs : List ElItem) : byToItem xs 0 = 0 := rfl
theorem byTo_allItem (xs : List ElItem) : byToItem xs xs.length = (xs.map byItem).sum := by unfold byToItem; rw [List.take_length]
theorem szItem_any (a : ByteArray) (b : ByteArray) (c : ByteArray) (d : Int) (left : Int) (w : World) (h0 : 0 ≤ left) (h1 : left ≤ 1048576) (hs0 : a.size ≤ maxLen) (hs1 : b.size ≤ maxLen) (hs2 : c.size ≤ maxLen) :
    Calls Tryz.prog 77 #[.agg #[.string a, .string b, .string c, .int .i64 d], .int .i64 left] w fun e w' => e = .returned (.int .i64 (szL left (a.size + b.size + c.size))) ∧ Below w.heap.size w w' := by
 unfold maxLen at hs0 hs1 hs2
 by_cases hz0 : left - (a.size : Int) < 0
 ·have hd0 : decide (left - (a.size : Int) < 0) = true := by simp [hz0]
  have HZ := Lib.hid (szL_no (left := left) (n := a.size + b.size + c.size) (by omega))
  go_enter Tryz.func77, Tryz.ntmps77
  go_wp2_with fail
  go_ret
  exact ⟨ret_int HZ.out.symm, (Below.refl _ _).alloc (Nat.le_refl _) _⟩
 ·have hd0 : decide (left - (a.size : Int) < 0) = false := by simp; omega
  by_cases hz1 : left - (a.size : Int) - (b.size : Int) < 0
  ·have hd1 : decide (left - (a.size : Int) - (b.size : Int) < 0) = true := by simp [hz1]
   have HZ := Lib.hid (szL_no (left := left) (n := a.size + b.size + c.size) (by omega))
   go_enter Tryz.func77, Tryz.ntmps77
   go_wp2_with fail
   go_ret
   exact ⟨ret_int HZ.out.symm, (Below.refl _ _).alloc (Nat.le_refl _) _⟩
  ·have hd1 : decide (left - (a.size : Int) - (b.size : Int) < 0) = false := by simp; omega
   by_cases hz2 : left - (a.size : Int) - (b.size : Int) - (c.size : Int) < 0
   ·have hd2 : decide (left - (a.size : Int) - (b.size : Int) - (c.size : Int) < 0) = true := by simp [hz2]
    have HZ := Lib.hid (szL_no (left := left) (n := a.size + b.size + c.size) (by omega))
    go_enter Tryz.func77, Tryz.ntmps77
    go_wp2_with fail
    go_ret
    exact ⟨ret_int HZ.out.symm, (Below.refl _ _).alloc (Nat.le_refl _) _⟩
   ·have hd2 : decide (left - (a.size : Int) - (b.size : Int) - (c.size : Int) < 0) = false := by simp; omega
    have HZ := Lib.hid (show left - (a.size : Int) - (b.size : Int) - (c.size : Int) = szL left (a.size + b.size + c.size) by have := szL_yes (left := left) (n := a.size + b.size + c.size) (by omega); omega)
    go_enter Tryz.func77, Tryz.ntmps77
    go_wp2_with fail
    go_ret
    exact ⟨ret_int HZ.out, (Below.refl _ _).alloc (Nat.le_refl _) _⟩
set_option maxHeartbeats 800000 in
theorem szItemS_any (A : Option Addr) (cap B : Nat) (xs : List ElItem) (left : Int) (w : World) (h : RdE 4 encItem w B A xs) (hB : B ≤ w.heap.size) (hl : xs.length ≤ 9223372036854775807) (hsz : ∀ k, k < xs.length → (gt xs k).1.size ≤ maxLen ∧ (gt xs k).2.1.size ≤ maxLen ∧ (gt xs k).2.2.1.size ≤ maxLen) (h0 : 0 ≤ left) (h1 : left ≤ 1048576) :
    Calls Tryz.prog 31 #[.slice A xs.length cap, .int .i64 left] w fun e w' => e = .returned (.int .i64 (szL left (totItem xs))) ∧ Below w.heap.size w w' := by
 by_cases hlt : left - (xs.length : Int) < 0
 ·have hd : decide (left - (xs.length : Int) < 0) = true := by simp [hlt]
  have HZ := Lib.hid (szL_no (left := left) (n := totItem xs) (by unfold totItem; omega))
  go_enter Tryz.func31, Tryz.ntmps31
  go_wp2_with fail
  go_ret
  exact ⟨ret_int HZ.out.symm, Below.refl _ _⟩
 ·have hd : decide (left - (xs.length : Int) < 0) = false := by simp; omega
  have HD := Lib.hid hsz
  clear hsz
  go_enter Tryz.func31, Tryz.ntmps31
  go_wp2_with fail
  go_loopw [1, 5] (fun q i wr => ∃ k : Nat, k ≤ xs.length ∧ i = .int .i64 k ∧ q = .int .i64 (left - xs.length - byToItem xs k) ∧ 0 ≤ left - xs.length - (byToItem xs k : Nat) ∧ Below w.heap.size w wr) (fun _ i _ => xs.length - (intOf i).toNat)
  case atStart => exact ⟨0, Nat.zero_le _, rfl, by rw [byTo_zeroItem]; simp, by rw [byTo_zeroItem]; simp; omega, Below.refl _ _⟩
  case round =>
   obtain ⟨k, hk, rfl, rfl, hq, hbl⟩ := hrel
   have hle := sum_leItem xs k
   by_cases hlt2 : k < xs.length
   ·have hst := sum_stepItem hlt2
    have hle2 := sum_leItem xs (k + 1)
    obtain ⟨z0, z1, z2⟩ := HD.out k hlt2
    obtain ⟨b, off, rfl, hb, hc⟩ := (h.below (hbl.mono hB)).at_ (by omega)
    have c0 : wr.cell? ⟨b, off + k * 4, none⟩ = some (Value.string ((gt xs k).1)) := hc k 0 (by omega) (by omega)
    have c1 : wr.cell? ⟨b, off + k * 4 + 1, none⟩ = some (Value.string ((gt xs k).2.1)) := hc k 1 (by omega) (by omega)
    have c2 : wr.cell? ⟨b, off + k * 4 + 2, none⟩ = some (Value.string ((gt xs k).2.2.1)) := hc k 2 (by omega) (by omega)
    have c3 : wr.cell? ⟨b, off + k * 4 + 3, none⟩ = some (Value.int .i64 ((gt xs k).2.2.2)) := hc k 3 (by omega) (by omega)
    clear hc
    have hby : byItem (gt xs k) = (gt xs k).1.size + (gt xs k).2.1.size + (gt xs k).2.2.1.size := rfl
    by_cases hneg : left - xs.length - byToItem xs k - (byItem (gt xs k) : Int) < 0
    ·have HZ := Lib.hid (szL_no (left := left) (n := totItem xs) (by unfold totItem; omega))
     have HN := Lib.hid (szL_no hneg)
     rw [hby] at HN
     have HC : Hid (∀ W, Calls Tryz.prog 77 #[.agg #[.string (gt xs k).1, .string (gt xs k).2.1, .string (gt xs k).2.2.1, .int .i64 (gt xs k).2.2.2], .int .i64 (left - xs.length - byToItem xs k)] W fun e w' => e = .returned (.int .i64 (-1)) ∧ Below W.heap.size W w') := Lib.hid (fun W => by
      have := szItem_any (gt xs k).1 (gt xs k).2.1 (gt xs k).2.2.1 (gt xs k).2.2.2 (left - xs.length - byToItem xs k) W (by omega) (by omega) z0 z1 z2
      rw [HN.out] at this
      exact this)
     clear hst hby
     go_wp2_with (go_at_call 77; refine (HC.out _).mono ?_; rintro e w1 ⟨rfl, hb1⟩)
     go_ret
     exact ⟨ret_int HZ.out.symm, hbl.trans (hb1.mono hbl.size)⟩
    ·have HN := Lib.hid (szL_yes (left := left - xs.length - byToItem xs k) (n := byItem (gt xs k)) (by omega))
     rw [hby] at HN
     have HST := Lib.hid hst
     have hd3 : decide (left - xs.length - byToItem xs k - ((((gt xs k).1.size + (gt xs k).2.1.size + (gt xs k).2.2.1.size : Nat)) : Int) < 0) = false := by simp; omega
     rw [hby] at hneg
     have HC : Hid (∀ W, Calls Tryz.prog 77 #[.agg #[.string (gt xs k).1, .string (gt xs k).2.1, .string (gt xs k).2.2.1, .int .i64 (gt xs k).2.2.2], .int .i64 (left - xs.length - byToItem xs k)] W fun e w' => e = .returned (.int .i64 (left - xs.length - byToItem xs k - ((((gt xs k).1.size + (gt xs k).2.1.size + (gt xs k).2.2.1.size : Nat)) : Int))) ∧ Below W.heap.size W w') := Lib.hid (fun W => by
      have := szItem_any (gt xs k).1 (gt xs k).2.1 (gt xs k).2.2.1 (gt xs k).2.2.2 (left - xs.length - byToItem xs k) W (by omega) (by omega) z0 z1 z2
      rw [HN.out] at this
      exact this)
     clear hst hby
     go_wp2_with (go_at_call 77; refine (HC.out _).mono ?_; rintro e w1 ⟨rfl, hb1⟩)
     go_roundw
     case rel => exact ⟨k + 1, by omega, by go_num, by rw [HST.out]; unfold byItem; go_num, by rw [HST.out]; unfold byItem; omega, hbl.trans (hb1.mono hbl.size)⟩
     case measure => simp [intOf]; omega
   ·obtain rfl : k = xs.length := by omega
    rw [byTo_allItem] at hq ⊢
    have HZ := Lib.hid (show left - xs.length - ((xs.map byItem).sum : Nat) = szL left (totItem xs) by have := szL_yes (left := left) (n := totItem xs) (by unfold totItem; omega); unfold totItem at this ⊢; omega)
    go_wp2_with fail
    go_ret
    exact ⟨ret_int HZ.out, hbl⟩end Go.Proofs.YtfnmlffpnmmcdaaGreatDoor
namespace Go.Proofs.YtfnmlffpnmmcdaaGreatDoor
set_option maxRecDepth 100000
open Go.RowKit
def ivB (p : ByteArray × ByteArray × ByteArray × Int) : Bool := wordB p.1 && (textB p.2.1 && (!(p.2.1.size == 0) && (textB p.2.2.1 && dayB p.2.2.2)))
theorem tl_empty (b : ByteArray) : b.toList.isEmpty = (b.size == 0) := by
 rw [← ba_size]; cases b.toList <;> simp
theorem tl_nil {b : ByteArray} : b.toList = [] ↔ b.size = 0 := by
 rw [← ba_size]; cases b.toList <;> simp
theorem isday_e {d : Int} {s : ByteArray} (h : IsDay d s) : (s.size == 0) = !dayB d := by
 unfold IsDay at h
 cases hd : dayB d <;> simp [hd] at h <;> simp [h]
theorem implItemValid_any (a b c : ByteArray) (d : Int) (w : World) (ha : a.size ≤ maxLen) (hb : b.size ≤ maxLen) (hc : c.size ≤ maxLen) : Calls Tryz.prog 115 #[.agg #[.string a, .string b, .string c, .int .i64 d]] w fun e w' => e = .returned (.bool (ivB (a, b, c, d))) ∧ Below w.heap.size w w' := by
 cases q1 : wordB a <;> cases q2 : textB b <;> cases q3 : textB c
 all_goals
  go_enter Tryz.func115, Tryz.ntmps115
  go_wp2_with (first | (go_at_call 68; refine (implWordValid_any _ _ (by assumption)).mono ?_; rintro e w' ⟨rfl, rfl⟩) | (go_at_call 140; refine (implTextValid_any _ _ (by assumption)).mono ?_; rintro e w' ⟨rfl, rfl⟩) | (go_at_call 141; refine (implDateText_any _ _).mono ?_; rintro e w' ⟨⟨s, rfl, hs⟩, hb⟩))
  all_goals
   go_ret
   first
    | exact ⟨ret_bool (by have he := isday_e hs; simp_all [ivB, tl_empty, tl_nil]), ((Below.refl _ _).alloc (Nat.le_refl _) _).trans (hb.mono (by simp))⟩
    | exact ⟨ret_bool (by simp_all [ivB, tl_nil]), (Below.refl _ _).alloc (Nat.le_refl _) _⟩
theorem specItemValid_any (a b c : ByteArray) (d : Int) (w : World) (ha : a.size ≤ maxLen) (hb : b.size ≤ maxLen) (hc : c.size ≤ maxLen) : Calls Tryz.prog 86 #[.agg #[.string a, .string b, .string c, .int .i64 d]] w fun e w' => e = .returned (.bool (ivB (a, b, c, d))) ∧ Below w.heap.size w w' := by
 cases q1 : wordB a <;> cases q2 : textB b <;> cases q3 : textB c
 all_goals
  go_enter Tryz.func86, Tryz.ntmps86
  go_wp2_with (first | (go_at_call 119; refine (specWordValid_any _ _ (by assumption)).mono ?_; rintro e w' ⟨rfl, rfl⟩) | (go_at_call 124; refine (specTextValid_any _ _ (by assumption)).mono ?_; rintro e w' ⟨rfl, rfl⟩) | (go_at_call 123; refine (specDateText_any _ _).mono ?_; rintro e w' ⟨⟨s, rfl, hs⟩, hb⟩))
  all_goals
   go_ret
   first
    | exact ⟨ret_bool (by have he := isday_e hs; simp_all [ivB, tl_empty, tl_nil]), ((Below.refl _ _).alloc (Nat.le_refl _) _).trans (hb.mono (by simp))⟩
    | exact ⟨ret_bool (by simp_all [ivB, tl_nil]), (Below.refl _ _).alloc (Nat.le_refl _) _⟩
end Go.Proofs.YtfnmlffpnmmcdaaGreatDoor
namespace Go.Proofs.YtfnmlffpnmmcdaaGreatDoor
set_option maxRecDepth 100000
open Go.RowKit
def nms : Nat → ByteArray
 | 0 => { data := #[107, 101, 121] }
 | 1 => { data := #[116, 105, 116, 108, 101] }
 | 2 => { data := #[100, 97, 121] }
 | _ => { data := #[98, 111, 100, 121] }
def rsOk (xs : List ElElement) : Prop := (∀ j, j < 3 → tnOf xs (nms j) = 1) ∧ tnOf xs (nms 3) ≤ 1
instance (xs : List ElElement) : Decidable (rsOk xs) := inferInstanceAs (Decidable ((∀ j, j < 3 → _) ∧ _))
def riI (xs : List ElElement) : ElItem := (etOf xs (nms 0), etOf xs (nms 1), etOf xs (nms 3), rdD (etOf xs (nms 2)))
def riOk (s : ByteArray) : Bool := elOk s && decide (rsOk (elOf s)) && ivB (riI (elOf s))
def riOf (s : ByteArray) : ElItem := if riOk s = true then riI (elOf s) else ({ data := #[] }, { data := #[] }, { data := #[] }, 0)
theorem ri_yes {s : ByteArray} (h1 : elOk s = true) (h2 : rsOk (elOf s)) (h3 : ivB (riI (elOf s)) = true) : riOf s = riI (elOf s) ∧ riOk s = true := by
 have h : riOk s = true := by unfold riOk; rw [h1, h3, decide_eq_true h2]; rfl
 exact ⟨if_pos h, h⟩
theorem ri_no {s : ByteArray} (h : elOk s = false ∨ ¬ rsOk (elOf s) ∨ ivB (riI (elOf s)) = false) : riOf s = ({ data := #[] }, { data := #[] }, { data := #[] }, 0) ∧ riOk s = false := by
 have h0 : riOk s = false := by
  unfold riOk
  rcases h with h | h | h
  ·rw [h]; rfl
  ·rw [decide_eq_false h, Bool.and_false, Bool.false_and]
  ·rw [h, Bool.and_false]
 exact ⟨if_neg (by rw [h0]; simp), h0⟩
theorem riOf_valid {s : ByteArray} (h : riOk s = true) : ivB (riOf s) = true := by
 unfold riOf
 rw [if_pos h]
 unfold riOk at h
 rw [Bool.and_eq_true] at h
 exact h.2
def nmC (j : Nat) : Value := .string (nms j)
def nmB (xs : List ElElement) (j : Nat) : Bool := if j < 3 then decide (tnOf xs (nms j) = 1) else decide (tnOf xs (nms j) ≤ 1)
def nmTo (xs : List ElElement) : Nat → Bool
 | 0 => true
 | j + 1 => nmTo xs j && nmB xs j
theorem nmTo_iff (xs : List ElElement) : ∀ k, nmTo xs k = true ↔ ∀ j, j < k → nmB xs j = true
 | 0 => by simp [nmTo]
 | k + 1 => by
  rw [nmTo, Bool.and_eq_true, nmTo_iff xs k]
  constructor
  ·rintro ⟨h1, h2⟩ j hj
   rcases Nat.lt_succ_iff_lt_or_eq.1 hj with h | rfl
   ·exact h1 j h
   ·exact h2
  ·intro h
   exact ⟨fun j hj => h j (by omega), h k (by omega)⟩
theorem nmTo_all (xs : List ElElement) : nmTo xs 4 = true ↔ rsOk xs := by
 rw [nmTo_iff]
 constructor
 ·intro h
  refine ⟨fun j hj => ?_, ?_⟩
  ·have := h j (by omega)
   unfold nmB at this
   rw [if_pos hj] at this
   exact of_decide_eq_true this
  ·exact of_decide_eq_true (h 3 (by omega))
 ·rintro ⟨h1, h2⟩ j hj
  unfold nmB
  by_cases h3 : j < 3
  ·rw [if_pos h3]; exact decide_eq_true (h1 j h3)
  ·obtain rfl : j = 3 := by omega
   rw [if_neg h3]; exact decide_eq_true h2
theorem nmB_no {xs : List ElElement} {j : Nat} (h : tnOf xs (nms j) ≠ 1) (h2 : 1 < tnOf xs (nms j) ∨ j < 3) : nmB xs j = false := by
 unfold nmB
 split
 ·exact decide_eq_false h
 ·exact decide_eq_false (by omega)
theorem nmB_yes {xs : List ElElement} {j : Nat} (h : tnOf xs (nms j) = 1 ∨ (tnOf xs (nms j) = 0 ∧ ¬ j < 3)) : nmB xs j = true := by
 unfold nmB
 split
 ·exact decide_eq_true (by omega)
 ·exact decide_eq_true (by omega)
end Go.Proofs.YtfnmlffpnmmcdaaGreatDoor
