/- Dates: the reference's text. -/
import Derived.Test.YtfnmlffpnmmcdaaDateD
import Derived.Test.YtfnmlffpnmmcdaaDateE
namespace Go.Proofs.Ytfnmlffpnmmcdaa
open Go.RowKit
theorem cumM_full (y : Int) : cumM y 12 = restM y 12 := by
  simp only [cumM, restM, mdOf]
  cases leapB y <;> simp
theorem conv_c (w : World) (c : Int) : (convert 22 9 (.slice (some ⟨w.heap.size, 0, none⟩) 1 1)).run Try.prog (w.alloc (.cells #[.int .u8 c] 5)) = .ok (.string (ByteArray.empty.push (UInt8.ofNat c.toNat))) (w.alloc (.cells #[.int .u8 c] 5)) := by
  rw [run_convert_bytes_string _ 22 9 5 _ _ _ Try.underlying22 Try.underlying5 Try.underlying9]
  rw [run_bytesToString _ _ 1 1 [c] (run_loadCells_list _ _ [.int .u8 c] (fun j v hj => by
    match j, hj with
    | 0, hj =>
      simp only [List.getElem?_cons_zero, Option.some.injEq] at hj
      subst hj
      show World.cell? _ ⟨w.heap.size, 0, none⟩ = _
      rw [World.cell?_alloc_at _ _ _ _ rfl]; rfl))]
  rfl
theorem dayN_first (y : Int) (w : World) (h1 : 1 ≤ y) (h2 : y ≤ 4000) (j : Nat) (hj : j ≤ 11) : Calls Try.prog 59 #[.int .i64 y, .int .i64 ((j : Int) + 1), .int .i64 1] w fun e w' => e = .returned (.int .i64 (dB y + cumM y j)) ∧ Below w.heap.size w w' := by
  have h := specDayNumber_any y 1 (j + 1) w h1 h2 (by omega) (by omega) (by omega) (by have := mdOf_bounds y ((j + 1 : Nat) : Int); omega)
  rw [show dB y + 1 - 1 + cumM y (j + 1 - 1) = dB y + cumM y j by rw [Nat.add_sub_cancel]; omega] at h
  exact h
theorem dayN_last (w : World) : Calls Try.prog 59 #[.int .i64 4000, .int .i64 12, .int .i64 31] w fun e w' => e = .returned (.int .i64 1460969) ∧ Below w.heap.size w w' := by
  have h := specDayNumber_any 4000 31 12 w (by omega) (by omega) (by omega) (by omega) (by omega) (by decide)
  rw [show dB 4000 + 31 - 1 + cumM 4000 (12 - 1) = 1460969 by decide] at h
  exact h
set_option maxHeartbeats 1600000 in
/-- The digits, written one after the other. -/
theorem specDateText_any (d : Int) (w : World) : Calls Try.prog 53 #[.int .i64 d] w fun e w' => (∃ s : ByteArray, e = .returned (.string s) ∧ IsDay d s) ∧ Below w.heap.size w w' := by
  have HLA := Lib.hid dB_last
  by_cases h0 : 0 ≤ d ∧ d < 1460970
  · have HI := Lib.hid (inB_true (n := d) (lo := 0) (hi := 1460969) h0.1 (by omega))
    have HY := Lib.hid (dayB_yes h0.1 h0.2)
    obtain ⟨h00, h01⟩ := h0
    go_enter Try.func53, Try.ntmps53
    go_wp2_with fail
    refine (dayN_last w).mono ?_
    rintro e w1 ⟨rfl, hb1⟩
    go_wp2_with fail
    refine (l1In_any _ _ _ w1).mono ?_
    rintro e w' ⟨rfl, rfl⟩
    rw [HI.out]
    go_wp2_with fail
    go_loopw [3] (fun i wr => ∃ y : Int, 1 ≤ y ∧ y ≤ 4000 ∧ dB y ≤ d ∧ i = .int .i64 y ∧ Below w.heap.size w wr) (fun i _ => (4001 - intOf i).toNat)
    case atStart => exact ⟨d / 366 + 1, by omega, by omega, by have := dB_le (y := d / 366 + 1) (by omega); omega, rfl, hb1⟩
    case round =>
      clear hb1
      obtain ⟨y, hy1, hy2, hyd, rfl, hbl⟩ := hrel
      have hsw := hbl.size
      by_cases hex : y < 4000 ∧ dB (y + 1) ≤ d
      · obtain ⟨hy4, hc⟩ := hex
        have d0 : decide (y < 4000) = true := decide_eq_true hy4
        have d1 : decide (dB (y + 1) ≤ d) = true := decide_eq_true hc
        have hcall := dayN_first (y + 1) wr (by omega) (by omega) 0 (by omega)
        rw [show dB (y + 1) + cumM (y + 1) 0 = dB (y + 1) by simp [cumM]] at hcall
        have HC := Lib.hid hcall
        clear hcall
        go_wp2_with fail
        refine HC.out.mono ?_
        rintro e w2 ⟨rfl, hb2⟩
        go_wp2_with fail
        go_roundw
        case rel => exact ⟨y + 1, by omega, by omega, hc, by first | rfl | trivial, hbl.trans (hb2.mono hsw)⟩
        case measure => simp [intOf]; omega
      · have hr : Hid (d < dB y + restM y 12) := Lib.hid (by
          rw [← dB_succ]
          by_cases h4 : y < 4000
          · exact Int.not_le.1 (fun h => hex ⟨h4, h⟩)
          · have e : y = 4000 := by omega
            subst e
            have := HLA.out
            show d < dB 4001
            omega)
        by_cases hy4 : y < 4000
        · have d0 : decide (y < 4000) = true := decide_eq_true hy4
          have d1 : decide (dB (y + 1) ≤ d) = false := decide_eq_false (fun h => hex ⟨hy4, h⟩)
          have hcall := dayN_first (y + 1) wr (by omega) (by omega) 0 (by omega)
          rw [show dB (y + 1) + cumM (y + 1) 0 = dB (y + 1) by simp [cumM]] at hcall
          have HC := Lib.hid hcall
          clear hcall hex
          go_wp2_with fail
          refine HC.out.mono ?_
          clear HC
          rintro e w2 ⟨rfl, hb2⟩
          have hbl2 := hbl.trans (hb2.mono hsw)
          clear hbl hb2 hsw
          go_wp2_with fail
          go_loopw [4] (fun i wr => ∃ j : Nat, j ≤ 11 ∧ dB y + cumM y j ≤ d ∧ i = .int .i64 ((j : Int) + 1) ∧ Below w.heap.size w wr) (fun i _ => (13 - intOf i).toNat)
          case atStart => exact ⟨0, by omega, by simp [cumM]; exact hyd, by simp, hbl2⟩
          case round =>
            clear hbl2
            obtain ⟨j, hj, hjd, rfl, hbl⟩ := hrel
            have hsw := hbl.size
            have hge := dB_ge hy1
            have hcb := cumM_bounds y j
            by_cases hex : j < 11 ∧ dB y + cumM y (j + 1) ≤ d
            · obtain ⟨hj1, hc⟩ := hex
              have d0 : decide ((j : Int) + 1 < 12) = true := decide_eq_true (by omega)
              have d1 : decide (dB y + cumM y (j + 1) ≤ d) = true := decide_eq_true hc
              have hcall := dayN_first y wr hy1 hy2 (j + 1) (by omega)
              rw [show ((j + 1 : Nat) : Int) + 1 = (j : Int) + 1 + 1 by omega] at hcall
              have HC := Lib.hid hcall
              clear hcall
              go_wp2_with fail
              refine HC.out.mono ?_
              rintro e w3 ⟨rfl, hb3⟩
              go_wp2_with fail
              go_roundw
              case rel => exact ⟨j + 1, by omega, hc, by first | trivial | go_num, hbl.trans (hb3.mono hsw)⟩
              case measure => simp [intOf]; omega
            · have hr2 : d - (dB y + cumM y j) < mdOf y ((j : Int) + 1) := by
                have hs := cumM_succ y j
                by_cases h11 : j < 11
                · have : ¬ dB y + cumM y (j + 1) ≤ d := fun h => hex ⟨h11, h⟩
                  omega
                · have e : j = 11 := by omega
                  subst e
                  have hf := cumM_full y
                  have := hr.out
                  have hs2 : cumM y 12 = cumM y 11 + mdOf y (((11 : Nat) : Int) + 1) := hs
                  omega
              have hmb := mdOf_bounds y ((j : Int) + 1)
              have hcall9 := fun w' => dayN_first y w' hy1 hy2 j hj
              have HC9 := Lib.hid hcall9
              clear hcall9
              by_cases hj1 : j < 11
              · have d0 : decide ((j : Int) + 1 < 12) = true := decide_eq_true (by omega)
                have d1 : decide (dB y + cumM y (j + 1) ≤ d) = false := decide_eq_false (fun h => hex ⟨hj1, h⟩)
                have hcall := dayN_first y wr hy1 hy2 (j + 1) (by omega)
                rw [show ((j + 1 : Nat) : Int) + 1 = (j : Int) + 1 + 1 by omega] at hcall
                have HC := Lib.hid hcall
                clear hcall hex
                go_wp2_with fail
                refine HC.out.mono ?_
                clear HC
                rintro e w3 ⟨rfl, hb3⟩
                have hbl3 := hbl.trans (hb3.mono hsw)
                clear hbl hb3 hsw
                go_wp2_with fail
                refine (HC9.out w3).mono ?_
                clear HC9
                rintro e w4 ⟨rfl, hb4⟩
                have hbl4 := hbl3.trans (hb4.mono hbl3.size)
                clear hbl3 hb4
                obtain ⟨r, hrr⟩ : ∃ r, r = d - (dB y + cumM y j) + 1 := ⟨_, rfl⟩
                obtain ⟨m, hm⟩ : ∃ m : Int, m = (j : Int) + 1 := ⟨_, rfl⟩
                have hr1 : 1 ≤ r := by omega
                have hr31 : r ≤ 31 := by omega
                go_wp2_with fail
                rw [← hrr, ← hm]
                have hm1 : 1 ≤ m := by omega
                have hm12 : m ≤ 12 := by omega
                clear hrr hm hr2 hmb hjd hge hcb
                obtain ⟨wD, hwD⟩ : ∃ wD, wD = w4.alloc (.cells #[.int .i64 (y / 1000), .int .i64 (y / 100 % 10), .int .i64 (y / 10 % 10), .int .i64 (y % 10), .int .i64 (-1), .int .i64 (m / 10), .int .i64 (m % 10), .int .i64 (-1), .int .i64 (r / 10), .int .i64 (r % 10)] 3) := ⟨_, rfl⟩
                have hcell : ∀ q, q < 10 → ∃ v : Int, -1 ≤ v ∧ v ≤ 9 ∧ wD.cell? ⟨w4.heap.size, q, none⟩ = some (.int .i64 v) := fun q hq => by
                  rw [hwD, World.cell?_alloc_at _ _ _ _ rfl]
                  match q, hq with
                  | 0, _ => exact ⟨y / 1000, by omega, by omega, rfl⟩
                  | 1, _ => exact ⟨y / 100 % 10, by omega, by omega, rfl⟩
                  | 2, _ => exact ⟨y / 10 % 10, by omega, by omega, rfl⟩
                  | 3, _ => exact ⟨y % 10, by omega, by omega, rfl⟩
                  | 4, _ => exact ⟨-1, by omega, by omega, rfl⟩
                  | 5, _ => exact ⟨m / 10, by omega, by omega, rfl⟩
                  | 6, _ => exact ⟨m % 10, by omega, by omega, rfl⟩
                  | 7, _ => exact ⟨-1, by omega, by omega, rfl⟩
                  | 8, _ => exact ⟨r / 10, by omega, by omega, rfl⟩
                  | 9, _ => exact ⟨r % 10, by omega, by omega, rfl⟩
                have HCE := Lib.hid hcell
                have hblD : Below w.heap.size w wD := by rw [hwD]; exact hbl4.alloc hbl4.size _
                have hzD : w4.heap.size < wD.heap.size := by rw [hwD]; simp
                rw [← hwD]
                clear hwD hbl4 hcell
                go_loopw [6, 8] (fun o i wr => ∃ (k : Nat) (s : ByteArray), k ≤ 10 ∧ s.size = k ∧ o = .string s ∧ i = .int .i64 (k : Int) ∧ Below wD.heap.size wD wr) (fun _ i _ => (10 - intOf i).toNat)
                case atStart => exact ⟨0, _, by omega, rfl, rfl, rfl, Below.refl _ _⟩
                case round =>
                  obtain ⟨k, s, hk, hsk, rfl, rfl, hbw⟩ := hrel
                  have hsx := hbw.size
                  by_cases hlt : k < 10
                  · have hd2 : decide ((k : Int) < 10) = true := decide_eq_true (by omega)
                    obtain ⟨v, hv1, hv2, hcv⟩ := HCE.out k hlt
                    have hcr := (hbw.cell (p := ⟨w4.heap.size, k, none⟩) hzD).trans hcv
                    by_cases hneg : v < 0
                    · have hd3 : decide (v < 0) = true := decide_eq_true hneg
                      go_wp2_with fail
                      go_roundw
                      case rel => exact ⟨k + 1, _, by omega, by rw [ByteArray.size_append, hsk]; rfl, rfl, by first | go_num | trivial, hbw⟩
                      case measure => simp [intOf]; omega
                    · have hd3 : decide (v < 0) = false := decide_eq_false hneg
                      have hcc := conv_c wr (48 + v)
                      go_wp2_with fail
                      go_roundw
                      case rel => exact ⟨k + 1, _, by omega, by rw [ByteArray.size_append, hsk, ByteArray.size_push]; rfl, rfl, by first | go_num | trivial, hbw.alloc hbw.size _⟩
                      case measure => simp [intOf]; omega
                  · have hd2 : decide ((k : Int) < 10) = false := decide_eq_false (by omega)
                    obtain rfl : k = 10 := by omega
                    go_wp2_with fail
                    go_ret
                    exact ⟨⟨s, rfl, by unfold IsDay; rw [HY.out]; exact hsk⟩, hblD.trans (hbw.mono hblD.size)⟩
              · have d0 : decide ((j : Int) + 1 < 12) = false := decide_eq_false (by omega)
                clear hex
                have hbl3 := hbl
                clear hbl hsw
                obtain ⟨w3, rfl⟩ : ∃ w3 : World, w3 = wr := ⟨_, rfl⟩
                go_wp2_with fail
                refine (HC9.out w3).mono ?_
                clear HC9
                rintro e w4 ⟨rfl, hb4⟩
                have hbl4 := hbl3.trans (hb4.mono hbl3.size)
                clear hbl3 hb4
                obtain ⟨r, hrr⟩ : ∃ r, r = d - (dB y + cumM y j) + 1 := ⟨_, rfl⟩
                obtain ⟨m, hm⟩ : ∃ m : Int, m = (j : Int) + 1 := ⟨_, rfl⟩
                have hr1 : 1 ≤ r := by omega
                have hr31 : r ≤ 31 := by omega
                go_wp2_with fail
                rw [← hrr, ← hm]
                have hm1 : 1 ≤ m := by omega
                have hm12 : m ≤ 12 := by omega
                clear hrr hm hr2 hmb hjd hge hcb
                obtain ⟨wD, hwD⟩ : ∃ wD, wD = w4.alloc (.cells #[.int .i64 (y / 1000), .int .i64 (y / 100 % 10), .int .i64 (y / 10 % 10), .int .i64 (y % 10), .int .i64 (-1), .int .i64 (m / 10), .int .i64 (m % 10), .int .i64 (-1), .int .i64 (r / 10), .int .i64 (r % 10)] 3) := ⟨_, rfl⟩
                have hcell : ∀ q, q < 10 → ∃ v : Int, -1 ≤ v ∧ v ≤ 9 ∧ wD.cell? ⟨w4.heap.size, q, none⟩ = some (.int .i64 v) := fun q hq => by
                  rw [hwD, World.cell?_alloc_at _ _ _ _ rfl]
                  match q, hq with
                  | 0, _ => exact ⟨y / 1000, by omega, by omega, rfl⟩
                  | 1, _ => exact ⟨y / 100 % 10, by omega, by omega, rfl⟩
                  | 2, _ => exact ⟨y / 10 % 10, by omega, by omega, rfl⟩
                  | 3, _ => exact ⟨y % 10, by omega, by omega, rfl⟩
                  | 4, _ => exact ⟨-1, by omega, by omega, rfl⟩
                  | 5, _ => exact ⟨m / 10, by omega, by omega, rfl⟩
                  | 6, _ => exact ⟨m % 10, by omega, by omega, rfl⟩
                  | 7, _ => exact ⟨-1, by omega, by omega, rfl⟩
                  | 8, _ => exact ⟨r / 10, by omega, by omega, rfl⟩
                  | 9, _ => exact ⟨r % 10, by omega, by omega, rfl⟩
                have HCE := Lib.hid hcell
                have hblD : Below w.heap.size w wD := by rw [hwD]; exact hbl4.alloc hbl4.size _
                have hzD : w4.heap.size < wD.heap.size := by rw [hwD]; simp
                rw [← hwD]
                clear hwD hbl4 hcell
                go_loopw [6, 8] (fun o i wr => ∃ (k : Nat) (s : ByteArray), k ≤ 10 ∧ s.size = k ∧ o = .string s ∧ i = .int .i64 (k : Int) ∧ Below wD.heap.size wD wr) (fun _ i _ => (10 - intOf i).toNat)
                case atStart => exact ⟨0, _, by omega, rfl, rfl, rfl, Below.refl _ _⟩
                case round =>
                  obtain ⟨k, s, hk, hsk, rfl, rfl, hbw⟩ := hrel
                  have hsx := hbw.size
                  by_cases hlt : k < 10
                  · have hd2 : decide ((k : Int) < 10) = true := decide_eq_true (by omega)
                    obtain ⟨v, hv1, hv2, hcv⟩ := HCE.out k hlt
                    have hcr := (hbw.cell (p := ⟨w4.heap.size, k, none⟩) hzD).trans hcv
                    by_cases hneg : v < 0
                    · have hd3 : decide (v < 0) = true := decide_eq_true hneg
                      go_wp2_with fail
                      go_roundw
                      case rel => exact ⟨k + 1, _, by omega, by rw [ByteArray.size_append, hsk]; rfl, rfl, by first | go_num | trivial, hbw⟩
                      case measure => simp [intOf]; omega
                    · have hd3 : decide (v < 0) = false := decide_eq_false hneg
                      have hcc := conv_c wr (48 + v)
                      go_wp2_with fail
                      go_roundw
                      case rel => exact ⟨k + 1, _, by omega, by rw [ByteArray.size_append, hsk, ByteArray.size_push]; rfl, rfl, by first | go_num | trivial, hbw.alloc hbw.size _⟩
                      case measure => simp [intOf]; omega
                  · have hd2 : decide ((k : Int) < 10) = false := decide_eq_false (by omega)
                    obtain rfl : k = 10 := by omega
                    go_wp2_with fail
                    go_ret
                    exact ⟨⟨s, rfl, by unfold IsDay; rw [HY.out]; exact hsk⟩, hblD.trans (hbw.mono hblD.size)⟩
        · have d0 : decide (y < 4000) = false := decide_eq_false hy4
          clear hex
          have hbl2 := hbl
          clear hbl hsw
          obtain ⟨w2, rfl⟩ : ∃ w2 : World, w2 = wr := ⟨_, rfl⟩
          go_wp2_with fail
          clear d0 hy4
          go_loopw [4] (fun i wr => ∃ j : Nat, j ≤ 11 ∧ dB y + cumM y j ≤ d ∧ i = .int .i64 ((j : Int) + 1) ∧ Below w.heap.size w wr) (fun i _ => (13 - intOf i).toNat)
          case atStart => exact ⟨0, by omega, by simp [cumM]; exact hyd, by simp, hbl2⟩
          case round =>
            clear hbl2
            obtain ⟨j, hj, hjd, rfl, hbl⟩ := hrel
            have hsw := hbl.size
            have hge := dB_ge hy1
            have hcb := cumM_bounds y j
            by_cases hex : j < 11 ∧ dB y + cumM y (j + 1) ≤ d
            · obtain ⟨hj1, hc⟩ := hex
              have d0 : decide ((j : Int) + 1 < 12) = true := decide_eq_true (by omega)
              have d1 : decide (dB y + cumM y (j + 1) ≤ d) = true := decide_eq_true hc
              have hcall := dayN_first y wr hy1 hy2 (j + 1) (by omega)
              rw [show ((j + 1 : Nat) : Int) + 1 = (j : Int) + 1 + 1 by omega] at hcall
              have HC := Lib.hid hcall
              clear hcall
              go_wp2_with fail
              refine HC.out.mono ?_
              rintro e w3 ⟨rfl, hb3⟩
              go_wp2_with fail
              go_roundw
              case rel => exact ⟨j + 1, by omega, hc, by first | trivial | go_num, hbl.trans (hb3.mono hsw)⟩
              case measure => simp [intOf]; omega
            · have hr2 : d - (dB y + cumM y j) < mdOf y ((j : Int) + 1) := by
                have hs := cumM_succ y j
                by_cases h11 : j < 11
                · have : ¬ dB y + cumM y (j + 1) ≤ d := fun h => hex ⟨h11, h⟩
                  omega
                · have e : j = 11 := by omega
                  subst e
                  have hf := cumM_full y
                  have := hr.out
                  have hs2 : cumM y 12 = cumM y 11 + mdOf y (((11 : Nat) : Int) + 1) := hs
                  omega
              have hmb := mdOf_bounds y ((j : Int) + 1)
              have hcall9 := fun w' => dayN_first y w' hy1 hy2 j hj
              have HC9 := Lib.hid hcall9
              clear hcall9
              by_cases hj1 : j < 11
              · have d0 : decide ((j : Int) + 1 < 12) = true := decide_eq_true (by omega)
                have d1 : decide (dB y + cumM y (j + 1) ≤ d) = false := decide_eq_false (fun h => hex ⟨hj1, h⟩)
                have hcall := dayN_first y wr hy1 hy2 (j + 1) (by omega)
                rw [show ((j + 1 : Nat) : Int) + 1 = (j : Int) + 1 + 1 by omega] at hcall
                have HC := Lib.hid hcall
                clear hcall hex
                go_wp2_with fail
                refine HC.out.mono ?_
                clear HC
                rintro e w3 ⟨rfl, hb3⟩
                have hbl3 := hbl.trans (hb3.mono hsw)
                clear hbl hb3 hsw
                go_wp2_with fail
                refine (HC9.out w3).mono ?_
                clear HC9
                rintro e w4 ⟨rfl, hb4⟩
                have hbl4 := hbl3.trans (hb4.mono hbl3.size)
                clear hbl3 hb4
                obtain ⟨r, hrr⟩ : ∃ r, r = d - (dB y + cumM y j) + 1 := ⟨_, rfl⟩
                obtain ⟨m, hm⟩ : ∃ m : Int, m = (j : Int) + 1 := ⟨_, rfl⟩
                have hr1 : 1 ≤ r := by omega
                have hr31 : r ≤ 31 := by omega
                go_wp2_with fail
                rw [← hrr, ← hm]
                have hm1 : 1 ≤ m := by omega
                have hm12 : m ≤ 12 := by omega
                clear hrr hm hr2 hmb hjd hge hcb
                obtain ⟨wD, hwD⟩ : ∃ wD, wD = w4.alloc (.cells #[.int .i64 (y / 1000), .int .i64 (y / 100 % 10), .int .i64 (y / 10 % 10), .int .i64 (y % 10), .int .i64 (-1), .int .i64 (m / 10), .int .i64 (m % 10), .int .i64 (-1), .int .i64 (r / 10), .int .i64 (r % 10)] 3) := ⟨_, rfl⟩
                have hcell : ∀ q, q < 10 → ∃ v : Int, -1 ≤ v ∧ v ≤ 9 ∧ wD.cell? ⟨w4.heap.size, q, none⟩ = some (.int .i64 v) := fun q hq => by
                  rw [hwD, World.cell?_alloc_at _ _ _ _ rfl]
                  match q, hq with
                  | 0, _ => exact ⟨y / 1000, by omega, by omega, rfl⟩
                  | 1, _ => exact ⟨y / 100 % 10, by omega, by omega, rfl⟩
                  | 2, _ => exact ⟨y / 10 % 10, by omega, by omega, rfl⟩
                  | 3, _ => exact ⟨y % 10, by omega, by omega, rfl⟩
                  | 4, _ => exact ⟨-1, by omega, by omega, rfl⟩
                  | 5, _ => exact ⟨m / 10, by omega, by omega, rfl⟩
                  | 6, _ => exact ⟨m % 10, by omega, by omega, rfl⟩
                  | 7, _ => exact ⟨-1, by omega, by omega, rfl⟩
                  | 8, _ => exact ⟨r / 10, by omega, by omega, rfl⟩
                  | 9, _ => exact ⟨r % 10, by omega, by omega, rfl⟩
                have HCE := Lib.hid hcell
                have hblD : Below w.heap.size w wD := by rw [hwD]; exact hbl4.alloc hbl4.size _
                have hzD : w4.heap.size < wD.heap.size := by rw [hwD]; simp
                rw [← hwD]
                clear hwD hbl4 hcell
                go_loopw [6, 8] (fun o i wr => ∃ (k : Nat) (s : ByteArray), k ≤ 10 ∧ s.size = k ∧ o = .string s ∧ i = .int .i64 (k : Int) ∧ Below wD.heap.size wD wr) (fun _ i _ => (10 - intOf i).toNat)
                case atStart => exact ⟨0, _, by omega, rfl, rfl, rfl, Below.refl _ _⟩
                case round =>
                  obtain ⟨k, s, hk, hsk, rfl, rfl, hbw⟩ := hrel
                  have hsx := hbw.size
                  by_cases hlt : k < 10
                  · have hd2 : decide ((k : Int) < 10) = true := decide_eq_true (by omega)
                    obtain ⟨v, hv1, hv2, hcv⟩ := HCE.out k hlt
                    have hcr := (hbw.cell (p := ⟨w4.heap.size, k, none⟩) hzD).trans hcv
                    by_cases hneg : v < 0
                    · have hd3 : decide (v < 0) = true := decide_eq_true hneg
                      go_wp2_with fail
                      go_roundw
                      case rel => exact ⟨k + 1, _, by omega, by rw [ByteArray.size_append, hsk]; rfl, rfl, by first | go_num | trivial, hbw⟩
                      case measure => simp [intOf]; omega
                    · have hd3 : decide (v < 0) = false := decide_eq_false hneg
                      have hcc := conv_c wr (48 + v)
                      go_wp2_with fail
                      go_roundw
                      case rel => exact ⟨k + 1, _, by omega, by rw [ByteArray.size_append, hsk, ByteArray.size_push]; rfl, rfl, by first | go_num | trivial, hbw.alloc hbw.size _⟩
                      case measure => simp [intOf]; omega
                  · have hd2 : decide ((k : Int) < 10) = false := decide_eq_false (by omega)
                    obtain rfl : k = 10 := by omega
                    go_wp2_with fail
                    go_ret
                    exact ⟨⟨s, rfl, by unfold IsDay; rw [HY.out]; exact hsk⟩, hblD.trans (hbw.mono hblD.size)⟩
              · have d0 : decide ((j : Int) + 1 < 12) = false := decide_eq_false (by omega)
                clear hex
                have hbl3 := hbl
                clear hbl hsw
                obtain ⟨w3, rfl⟩ : ∃ w3 : World, w3 = wr := ⟨_, rfl⟩
                go_wp2_with fail
                refine (HC9.out w3).mono ?_
                clear HC9
                rintro e w4 ⟨rfl, hb4⟩
                have hbl4 := hbl3.trans (hb4.mono hbl3.size)
                clear hbl3 hb4
                obtain ⟨r, hrr⟩ : ∃ r, r = d - (dB y + cumM y j) + 1 := ⟨_, rfl⟩
                obtain ⟨m, hm⟩ : ∃ m : Int, m = (j : Int) + 1 := ⟨_, rfl⟩
                have hr1 : 1 ≤ r := by omega
                have hr31 : r ≤ 31 := by omega
                go_wp2_with fail
                rw [← hrr, ← hm]
                have hm1 : 1 ≤ m := by omega
                have hm12 : m ≤ 12 := by omega
                clear hrr hm hr2 hmb hjd hge hcb
                obtain ⟨wD, hwD⟩ : ∃ wD, wD = w4.alloc (.cells #[.int .i64 (y / 1000), .int .i64 (y / 100 % 10), .int .i64 (y / 10 % 10), .int .i64 (y % 10), .int .i64 (-1), .int .i64 (m / 10), .int .i64 (m % 10), .int .i64 (-1), .int .i64 (r / 10), .int .i64 (r % 10)] 3) := ⟨_, rfl⟩
                have hcell : ∀ q, q < 10 → ∃ v : Int, -1 ≤ v ∧ v ≤ 9 ∧ wD.cell? ⟨w4.heap.size, q, none⟩ = some (.int .i64 v) := fun q hq => by
                  rw [hwD, World.cell?_alloc_at _ _ _ _ rfl]
                  match q, hq with
                  | 0, _ => exact ⟨y / 1000, by omega, by omega, rfl⟩
                  | 1, _ => exact ⟨y / 100 % 10, by omega, by omega, rfl⟩
                  | 2, _ => exact ⟨y / 10 % 10, by omega, by omega, rfl⟩
                  | 3, _ => exact ⟨y % 10, by omega, by omega, rfl⟩
                  | 4, _ => exact ⟨-1, by omega, by omega, rfl⟩
                  | 5, _ => exact ⟨m / 10, by omega, by omega, rfl⟩
                  | 6, _ => exact ⟨m % 10, by omega, by omega, rfl⟩
                  | 7, _ => exact ⟨-1, by omega, by omega, rfl⟩
                  | 8, _ => exact ⟨r / 10, by omega, by omega, rfl⟩
                  | 9, _ => exact ⟨r % 10, by omega, by omega, rfl⟩
                have HCE := Lib.hid hcell
                have hblD : Below w.heap.size w wD := by rw [hwD]; exact hbl4.alloc hbl4.size _
                have hzD : w4.heap.size < wD.heap.size := by rw [hwD]; simp
                rw [← hwD]
                clear hwD hbl4 hcell
                go_loopw [6, 8] (fun o i wr => ∃ (k : Nat) (s : ByteArray), k ≤ 10 ∧ s.size = k ∧ o = .string s ∧ i = .int .i64 (k : Int) ∧ Below wD.heap.size wD wr) (fun _ i _ => (10 - intOf i).toNat)
                case atStart => exact ⟨0, _, by omega, rfl, rfl, rfl, Below.refl _ _⟩
                case round =>
                  obtain ⟨k, s, hk, hsk, rfl, rfl, hbw⟩ := hrel
                  have hsx := hbw.size
                  by_cases hlt : k < 10
                  · have hd2 : decide ((k : Int) < 10) = true := decide_eq_true (by omega)
                    obtain ⟨v, hv1, hv2, hcv⟩ := HCE.out k hlt
                    have hcr := (hbw.cell (p := ⟨w4.heap.size, k, none⟩) hzD).trans hcv
                    by_cases hneg : v < 0
                    · have hd3 : decide (v < 0) = true := decide_eq_true hneg
                      go_wp2_with fail
                      go_roundw
                      case rel => exact ⟨k + 1, _, by omega, by rw [ByteArray.size_append, hsk]; rfl, rfl, by first | go_num | trivial, hbw⟩
                      case measure => simp [intOf]; omega
                    · have hd3 : decide (v < 0) = false := decide_eq_false hneg
                      have hcc := conv_c wr (48 + v)
                      go_wp2_with fail
                      go_roundw
                      case rel => exact ⟨k + 1, _, by omega, by rw [ByteArray.size_append, hsk, ByteArray.size_push]; rfl, rfl, by first | go_num | trivial, hbw.alloc hbw.size _⟩
                      case measure => simp [intOf]; omega
                  · have hd2 : decide ((k : Int) < 10) = false := decide_eq_false (by omega)
                    obtain rfl : k = 10 := by omega
                    go_wp2_with fail
                    go_ret
                    exact ⟨⟨s, rfl, by unfold IsDay; rw [HY.out]; exact hsk⟩, hblD.trans (hbw.mono hblD.size)⟩
  · have HI := Lib.hid (inB_false (n := d) (lo := 0) (hi := 1460969) (by omega))
    have HN := Lib.hid (dayB_no (d := d) (by omega))
    clear h0
    go_enter Try.func53, Try.ntmps53
    go_wp2_with fail
    refine (dayN_last w).mono ?_
    rintro e w1 ⟨rfl, hb1⟩
    go_wp2_with fail
    refine (l1In_any _ _ _ w1).mono ?_
    rintro e w' ⟨rfl, rfl⟩
    rw [HI.out]
    go_wp2_with fail
    go_ret
    exact ⟨⟨_, rfl, by unfold IsDay; rw [HN.out]; rfl⟩, hb1⟩
end Go.Proofs.Ytfnmlffpnmmcdaa
