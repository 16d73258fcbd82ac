import Derived.Test.YtnplpllhochlfaaMark
import Derived.StillTailTactics
import Derived.Deep.RegionHeld3
namespace Go.Proofs.Ytnplpllhochlfaa
open Go.RowKit
theorem info_Tomb : (Try.prog.info? 54).map (fun i => (i.zero, i.size, i.bytes)) = some (some (.agg #[.string ByteArray.empty, .int .i64 0]), 2, 24) := by kernel_rfl
abbrev ElTomb : Type := ByteArray × Int
/-- Its cells. -/
def encTomb (p : ElTomb) : Nat → Value
  | 0 => Value.string (p.1)
  | _ => Value.int .i64 (p.2)
theorem encTomb_one (p : ElTomb) (i : Nat) : (encTomb p i).oneCell' = true := by unfold encTomb; split <;> rfl
theorem toTomb_any (a : ByteArray) (b : Int) (w : World) : Calls Try.prog 37 #[.agg #[.string a, .int .i64 b]] w fun e w' => e = .returned (.agg #[.string a, .int .i64 b]) ∧ Below w.heap.size w w' := by
  go_enter Try.func37, Try.ntmps37
  go_wp2
  refine bodyPost_ret (v := .agg #[.string a, .int .i64 b]) (by simp [results, Try.results37, go_sem]) rfl ⟨rfl, ?_⟩
  repeat (first | exact Below.refl _ _ | refine Below.alloc ?_ (by simp; try omega) _ | refine Below.setCell ?_ (by simp; try omega) _)

theorem stood_Tomb : Try.prog.stoodInHeld 54 = false := by kernel_rfl
theorem guard_Tomb : Try.prog.eqGuardType Try.prog.depth 54 = false := by kernel_rfl
theorem eqIn_Tomb (a : ByteArray) (b : Int) (p : ByteArray) (q : Int) (w : World) : (Op.equalIn 10000 54 (.agg #[.string a, .int .i64 b]) (.agg #[.string p, .int .i64 q])).run Try.prog w = .ok (eqEl (α := ElTomb) (a, b) (p, q)) w := by
  rw [run_equalIn_agg w 9999 54 _ _ (by rw [Program.fieldsOf, Try.underlying54]) stood_Tomb]
  simp only [Program.fieldsOf, Try.underlying54]
  simp [go_sem, Try.underlying9, Try.underlying3]
  by_cases h0 : a = p <;> by_cases h1 : b = q <;> simp [eqEl, ba_list, *]
theorem neq_Tomb (a : ByteArray) (b : Int) (p : ByteArray) (q : Int) (w : World) : (binOp .neq 54 (.agg #[.string a, .int .i64 b]) (.agg #[.string p, .int .i64 q])).run Try.prog w = .ok (.bool (!eqEl (α := ElTomb) (a, b) (p, q))) w := by
  rw [run_neq_struct, eqIn_Tomb]; rfl
theorem eql_Tomb (a : ByteArray) (b : Int) (p : ByteArray) (q : Int) (w : World) : (binOp .eql 54 (.agg #[.string a, .int .i64 b]) (.agg #[.string p, .int .i64 q])).run Try.prog w = .ok (.bool (eqEl (α := ElTomb) (a, b) (p, q))) w := by
  rw [run_eql_struct, eqIn_Tomb]; rfl
theorem eqTomb_any (a : ByteArray) (b : Int) (p : ByteArray) (q : Int) (w : World) : Calls Try.prog 39 #[.agg #[.string a, .int .i64 b], .agg #[.string p, .int .i64 q]] w fun e w' => e = .returned (.bool (eqEl (α := ElTomb) (a, b) (p, q))) ∧ Below w.heap.size w w' := by
  by_cases h0 : a = p
  · have b0 : (a.toList == p.toList) = true := by rw [seq_eql]; simp [seq, h0]
    have b0n : (a.toList != p.toList) = false := by rw [seq_neq]; simp [seq, h0]
    by_cases h1 : b = q
    · have b1 : (b != q) = false := by simp [h1]
      have HQ := Lib.hid (eqEl_true (α := ElTomb) (show ((a, b) : ElTomb) = (p, q) by simp [*]))
      clear h0 h1
      go_enter Try.func39, Try.ntmps39
      go_wp2
      go_ret
      exact ⟨ret_bool HQ.out.symm, (((Below.refl _ _).alloc (Nat.le_refl _) _).alloc (by simp) _)⟩
    · have b1 : (b != q) = true := by simp [h1]
      have HQ := Lib.hid (eqEl_false (α := ElTomb) (show ((a, b) : ElTomb) ≠ (p, q) by simp [*]))
      clear h0 h1
      go_enter Try.func39, Try.ntmps39
      go_wp2
      go_ret
      exact ⟨ret_bool HQ.out.symm, (((Below.refl _ _).alloc (Nat.le_refl _) _).alloc (by simp) _)⟩
  · have b0 : (a.toList == p.toList) = false := by rw [seq_eql]; simp [seq, h0]
    have b0n : (a.toList != p.toList) = true := by rw [seq_neq]; simp [seq, h0]
    have HQ := Lib.hid (eqEl_false (α := ElTomb) (show ((a, b) : ElTomb) ≠ (p, q) by simp [*]))
    clear h0
    go_enter Try.func39, Try.ntmps39
    go_wp2
    go_ret
    exact ⟨ret_bool HQ.out.symm, (((Below.refl _ _).alloc (Nat.le_refl _) _).alloc (by simp) _)⟩
theorem toTombS_any (A : Option Addr) (cap B : Nat) (xs : List ElTomb) (w : World) (h : RdE 2 encTomb w B A xs) (hB : B ≤ w.heap.size) (hl : xs.length ≤ 1048576) :
    Calls Try.prog 16 #[.slice A xs.length cap] w fun e w' => ∃ A' : Option Addr, e = .returned (.slice A' xs.length xs.length) ∧ OwnE 2 encTomb 54 w' w.heap.size A' xs.length xs ∧ Below w.heap.size w w' := by
  have hmk := mk_run (P := Try.prog) 24 54 _ _ _ Try.underlying24 info_Tomb xs.length (by omega) (by omega)
  go_enter Try.func16, Try.ntmps16
  go_wp2_with fail
  have hst := Own.made w 54 2 xs.length #[.string ByteArray.empty, .int .i64 0] encTomb (by simp only [maxLen]; omega) rfl (fun i hi => by rcases (by omega : i = 0 ∨ i = 1) with rfl | rfl <;> rfl)
  go_loopw [4] (fun i wr => ∃ k : Nat, k ≤ xs.length ∧ i = .int .i64 k ∧ Own wr w.heap.size 54 2 (some ⟨w.heap.size, 0, none⟩) xs.length xs.length (cE 2 encTomb (xs.take k)) ∧ Below w.heap.size w wr) (fun i _ => xs.length - (intOf i).toNat)
  case atStart => exact ⟨0, Nat.zero_le _, rfl, hst, (Below.refl _ _).alloc (Nat.le_refl _) _⟩
  case round =>
    clear hst
    obtain ⟨k, hk, rfl, hown, hbl⟩ := hrel
    by_cases hlt : k < xs.length
    · obtain ⟨b, off, rfl, hb, hc⟩ := (h.below (hbl.mono hB)).at_ (by omega)
      have c0 : wr.cell? ⟨b, off + k * 2, none⟩ = some (Value.string ((gt xs k).1)) := hc k 0 (by omega) (by omega)
      have c1 : wr.cell? ⟨b, off + k * 2 + 1, none⟩ = some (Value.int .i64 ((gt xs k).2)) := hc k 1 (by omega) (by omega)
      clear hc
      go_wp2_with fail
      refine (toTomb_any _ _ _).mono ?_
      rintro e w1 ⟨rfl, hb1⟩
      have hown1 := Own.below hown hb1
      have d0 := hown1.cell rfl (j := k * 2) (by omega)
      have e0 := hown1.frozen rfl (k * 2)
      have d1 := hown1.cell rfl (j := k * 2 + 1) (by omega)
      have e1 := hown1.frozen rfl (k * 2 + 1)
      have s0 := (hown1).set rfl (j := k * 2) (Value.string ((gt xs k).1))
      have s1 := (s0.1).set rfl (j := k * 2 + 1) (Value.int .i64 ((gt xs k).2))
      have HS := Lib.hid s1.1
      have HG := Lib.hid ((s0.2).trans s1.2)
      have HX := Lib.hid (hbl.trans (hb1.mono hbl.size))
      have hsz := Nat.le_trans hbl.size hb1.size
      clear s0 s1 hown hown1 hbl hb1
      go_wp2_with fail
      go_roundw
      case rel => exact ⟨k + 1, by omega, by go_num, Own.congr HS.out (fun j _ => by
          rw [cE_take_step encTomb]
          exact set_cells_2 k j _ _ rfl rfl), HX.out.trans (grown_below HG.out (fun b hb => by simp [blk] at hb; omega) hsz)⟩
      case measure => simp [intOf]; omega
    · obtain rfl : k = xs.length := by omega
      go_wp2_with fail
      go_ret
      rw [List.take_of_length_le (Nat.le_refl _)] at hown
      exact ⟨_, rfl, hown, hbl⟩
theorem eqTombS_any (A A' : Option Addr) (cap cap' B : Nat) (xs ys : List ElTomb) (w : World) (h : RdE 2 encTomb w B A xs) (h' : RdE 2 encTomb w B A' ys) (hB : B ≤ w.heap.size) (hl : xs.length ≤ 140737488351232) (hl' : ys.length ≤ 140737488351232) :
    Calls Try.prog 18 #[.slice A xs.length cap, .slice A' ys.length cap'] w fun e w' => e = .returned (.bool (sameB xs ys)) ∧ Below w.heap.size w w' := by
  by_cases hlen : xs.length = ys.length
  · have HL := Lib.hid hlen
    have hd : ((xs.length : Int) != (ys.length : Int)) = false := by rw [hlen]; simp
    have hle : xs.length ≤ ys.length := by omega
    clear hlen
    go_enter Try.func18, Try.ntmps18
    go_wp2_with fail
    go_loopw [5] (fun i wr => ∃ k : Nat, k ≤ xs.length ∧ Hid (∀ j, j < k → gt xs j = gt ys j) ∧ i = .int .i64 k ∧ Below w.heap.size w wr) (fun i _ => xs.length - (intOf i).toNat)
    case atStart => exact ⟨0, Nat.zero_le _, Lib.hid (fun j hj => absurd hj (by omega)), rfl, Below.refl _ _⟩
    case round =>
      obtain ⟨k, hk, HO, rfl, hbl⟩ := hrel
      by_cases hlt : k < xs.length
      · obtain ⟨b, off, rfl, hb, hc⟩ := (h.below (hbl.mono hB)).at_ (by omega)
        obtain ⟨b', off', rfl, hb', hc'⟩ := (h'.below (hbl.mono hB)).at_ (by omega)
        have c0 : wr.cell? ⟨b, off + k * 2, none⟩ = some (Value.string ((gt xs k).1)) := hc k 0 (by omega) (by omega)
        have c1 : wr.cell? ⟨b, off + k * 2 + 1, none⟩ = some (Value.int .i64 ((gt xs k).2)) := hc k 1 (by omega) (by omega)
        have d0 : wr.cell? ⟨b', off' + k * 2, none⟩ = some (Value.string ((gt ys k).1)) := hc' k 0 (by omega) (by omega)
        have d1 : wr.cell? ⟨b', off' + k * 2 + 1, none⟩ = some (Value.int .i64 ((gt ys k).2)) := hc' k 1 (by omega) (by omega)
        have hlt' : k < ys.length := by omega
        clear hc hc'
        by_cases hne : gt xs k = gt ys k
        · have hn : eqEl (α := ElTomb) ((gt xs k).1, (gt xs k).2) ((gt ys k).1, (gt ys k).2) = true := eqEl_true hne
          have HN := Lib.hid hne; clear hne
          go_wp2_with fail
          go_still_tail 8, (by kernel_rfl)
          go_wp2_with (go_at_call 39; refine (eqTomb_any _ _ _ _ _).mono ?_; rintro e w1 ⟨rfl, hb1⟩)
          go_roundw
          case rel => exact ⟨k + 1, by omega, Lib.hid (fun j hj => by
            rcases Nat.lt_succ_iff_lt_or_eq.1 hj with h1 | rfl
            · exact HO.out j h1
            · exact HN.out), by go_num, hbl.trans ((below_drew1 _).trans hb1 |> (·.mono hbl.size))⟩
          case measure => simp [intOf]; omega
        · have hn : eqEl (α := ElTomb) ((gt xs k).1, (gt xs k).2) ((gt ys k).1, (gt ys k).2) = false := eqEl_false hne
          have HN := Lib.hid hne; clear hne
          go_wp2_with fail
          go_still_tail 8, (by kernel_rfl)
          go_wp2_with (go_at_call 39; refine (eqTomb_any _ _ _ _ _).mono ?_; rintro e w1 ⟨rfl, hb1⟩)
          go_ret
          exact ⟨ret_bool (sameB_at HN.out).symm, hbl.trans ((below_drew1 _).trans hb1 |> (·.mono hbl.size))⟩
      · obtain rfl : k = xs.length := by omega
        go_wp2_with fail
        go_ret
        exact ⟨ret_bool (sameB_true HL.out HO.out).symm, hbl⟩
  · have hd : ((xs.length : Int) != (ys.length : Int)) = true := by simp; omega
    go_enter Try.func18, Try.ntmps18
    go_wp2_with fail
    go_ret
    exact ⟨ret_bool (sameB_len hlen).symm, Below.refl _ _⟩
/-- What marking leaves in the cells. -/
def mkTomb (k : Int) (j : Nat) : Value :=
  match j % 2 with
  | 0 => Value.string (mtext (k + j))
  | _ => Value.int .i64 (k + j)
theorem mkTomb_0 (k : Int) (j : Nat) : mkTomb k (j * 2) = Value.string (mtext (k + (j : Int) * 2)) := by
  unfold mkTomb
  rw [show (j * 2) % 2 = 0 by omega, show (k + ((j * 2 : Nat) : Int)) = k + (j : Int) * 2 by omega]
  rfl
theorem mkTomb_1 (k : Int) (j : Nat) : mkTomb k (j * 2 + 1) = Value.int .i64 (k + (j : Int) * 2 + 1) := by
  unfold mkTomb
  rw [show (j * 2 + 1) % 2 = 1 by omega, show (k + ((j * 2 + 1 : Nat) : Int)) = k + (j : Int) * 2 + 1 by omega]
  rfl
theorem markTombS_any (base : Nat) (A : Option Addr) (n cap : Nat) (f : Nat → Value) (k : Int) (w : World) (h : Own w base 54 2 A n cap f) (hn : n ≤ 1048576) (hk0 : 0 ≤ k) (hk : k ≤ 33554432) :
    Calls Try.prog 20 #[.slice A n cap, .int .i64 k] w fun e w' => e = .returned (.int .i64 (k + (n : Int) * 2)) ∧ Own w' base 54 2 A n cap (mkTomb k) ∧ w.grownBy w' (blk A) := by
  go_enter Try.func20, Try.ntmps20
  go_wp2_with fail
  go_loopw [1, 5] (fun q i wr => ∃ j : Nat, j ≤ n ∧ q = .int .i64 (k + (j : Int) * 2) ∧ i = .int .i64 j ∧ Own wr base 54 2 A n cap (fun x => if x < j * 2 then mkTomb k x else f x) ∧ w.grownBy wr (blk A)) (fun _ i _ => n - (intOf i).toNat)
  case atStart => exact ⟨0, Nat.zero_le _, by simp, rfl, by simpa using h, World.grownBy.refl _ _⟩
  case round =>
    obtain ⟨j, hj, rfl, rfl, hown, hgr⟩ := hrel
    by_cases hlt : j < n
    · rcases hown.shape with ⟨_, h0, _⟩ | ⟨b, hA, hb, hbs, _⟩
      · omega
      · subst hA
        go_wp2_with fail
        refine (markText_any _ _ (by omega) (by omega)).mono ?_
        rintro e v0 ⟨rfl, hb0⟩
        have o0 := Own.below (hown) hb0
        have g0 := keepG (hgr) hb0 (hgr).size
        have c0_0 := o0.cell rfl (j := j * 2) (by omega)
        have f0_0 := o0.frozen rfl (j * 2)
        have c0_1 := o0.cell rfl (j := j * 2 + 1) (by omega)
        have f0_1 := o0.frozen rfl (j * 2 + 1)
        have s0 := (o0).set rfl (j := j * 2) (Value.string (mtext (k + (j : Int) * 2)))
        have s1 := (s0.1).set rfl (j := j * 2 + 1) (Value.int .i64 (k + (j : Int) * 2 + 1))
        have HS1 := Lib.hid (s1.1)
        have HG1 := Lib.hid (((g0).trans s0.2).trans s1.2)
        clear s0 s1 o0 g0 hown hgr
        have HS := HS1
        have HG := HG1
        clear HS1 HG1
        go_wp2_with fail
        go_roundw
        case rel => exact ⟨j + 1, by omega, by go_num, by go_num, Own.congr HS.out (fun x _ => mark_cells_2 j x _ _ (mkTomb_0 k j) (mkTomb_1 k j)), HG.out⟩
        case measure => simp [intOf]; omega
    · obtain rfl : j = n := by omega
      go_wp2_with fail
      go_ret
      exact ⟨rfl, Own.congr hown (fun x hx => by rw [if_pos hx]), hgr⟩
/-- How many bytes it has. -/
def byTomb (x : ElTomb) : Nat := x.1.size
/-- How many bytes they have, and one each. -/
def totTomb (xs : List ElTomb) : Nat := xs.length + (xs.map byTomb).sum
/-- Those of the first k. -/
def byToTomb (xs : List ElTomb) (k : Nat) : Nat := ((xs.take k).map byTomb).sum
theorem sum_leTomb (xs : List ElTomb) (k : Nat) : byToTomb xs k ≤ (xs.map byTomb).sum := by
  unfold byToTomb
  conv => rhs; rw [← List.take_append_drop k xs, List.map_append, List.sum_append]
  omega
theorem sum_stepTomb {xs : List ElTomb} {k : Nat} (h : k < xs.length) : byToTomb xs (k + 1) = byToTomb xs k + byTomb (gt xs k) := by
  unfold byToTomb
  rw [take_snoc h, List.map_append, List.sum_append]; simp
theorem byTo_zeroTomb (xs : List ElTomb) : byToTomb xs 0 = 0 := rfl
theorem byTo_allTomb (xs : List ElTomb) : byToTomb xs xs.length = (xs.map byTomb).sum := by unfold byToTomb; rw [List.take_length]
theorem szTomb_any (a : ByteArray) (b : Int) (left : Int) (w : World) (h0 : 0 ≤ left) (h1 : left ≤ 1048576) (hs0 : a.size ≤ maxLen) :
    Calls Try.prog 35 #[.agg #[.string a, .int .i64 b], .int .i64 left] w fun e w' => e = .returned (.int .i64 (szL left (a.size))) ∧ Below w.heap.size w w' := by
  unfold maxLen at hs0
  by_cases hz0 : left - (a.size : Int) < 0
  · have hd0 : decide (left - (a.size : Int) < 0) = true := by simp [hz0]
    have HZ := Lib.hid (szL_no (left := left) (n := a.size) (by omega))
    go_enter Try.func35, Try.ntmps35
    go_wp2_with fail
    go_ret
    exact ⟨ret_int HZ.out.symm, (Below.refl _ _).alloc (Nat.le_refl _) _⟩
  · have hd0 : decide (left - (a.size : Int) < 0) = false := by simp; omega
    have HZ := Lib.hid (show left - (a.size : Int) = szL left (a.size) by have := szL_yes (left := left) (n := a.size) (by omega); omega)
    go_enter Try.func35, Try.ntmps35
    go_wp2_with fail
    go_ret
    exact ⟨ret_int HZ.out, (Below.refl _ _).alloc (Nat.le_refl _) _⟩
set_option maxHeartbeats 800000 in
theorem szTombS_any (A : Option Addr) (cap B : Nat) (xs : List ElTomb) (left : Int) (w : World) (h : RdE 2 encTomb w B A xs) (hB : B ≤ w.heap.size) (hl : xs.length ≤ 9223372036854775807) (hsz : ∀ k, k < xs.length → (gt xs k).1.size ≤ maxLen) (h0 : 0 ≤ left) (h1 : left ≤ 1048576) :
    Calls Try.prog 14 #[.slice A xs.length cap, .int .i64 left] w fun e w' => e = .returned (.int .i64 (szL left (totTomb xs))) ∧ Below w.heap.size w w' := by
  by_cases hlt : left - (xs.length : Int) < 0
  · have hd : decide (left - (xs.length : Int) < 0) = true := by simp [hlt]
    have HZ := Lib.hid (szL_no (left := left) (n := totTomb xs) (by unfold totTomb; omega))
    go_enter Try.func14, Try.ntmps14
    go_wp2_with fail
    go_ret
    exact ⟨ret_int HZ.out.symm, Below.refl _ _⟩
  · have hd : decide (left - (xs.length : Int) < 0) = false := by simp; omega
    have HD := Lib.hid hsz
    clear hsz
    go_enter Try.func14, Try.ntmps14
    go_wp2_with fail
    go_loopw [1, 5] (fun q i wr => ∃ k : Nat, k ≤ xs.length ∧ i = .int .i64 k ∧ q = .int .i64 (left - xs.length - byToTomb xs k) ∧ 0 ≤ left - xs.length - (byToTomb xs k : Nat) ∧ Below w.heap.size w wr) (fun _ i _ => xs.length - (intOf i).toNat)
    case atStart => exact ⟨0, Nat.zero_le _, rfl, by rw [byTo_zeroTomb]; simp, by rw [byTo_zeroTomb]; simp; omega, Below.refl _ _⟩
    case round =>
      obtain ⟨k, hk, rfl, rfl, hq, hbl⟩ := hrel
      have hle := sum_leTomb xs k
      by_cases hlt2 : k < xs.length
      · have hst := sum_stepTomb hlt2
        have hle2 := sum_leTomb xs (k + 1)
        have z0 := HD.out k hlt2
        obtain ⟨b, off, rfl, hb, hc⟩ := (h.below (hbl.mono hB)).at_ (by omega)
        have c0 : wr.cell? ⟨b, off + k * 2, none⟩ = some (Value.string ((gt xs k).1)) := hc k 0 (by omega) (by omega)
        have c1 : wr.cell? ⟨b, off + k * 2 + 1, none⟩ = some (Value.int .i64 ((gt xs k).2)) := hc k 1 (by omega) (by omega)
        clear hc
        have hby : byTomb (gt xs k) = (gt xs k).1.size := rfl
        by_cases hneg : left - xs.length - byToTomb xs k - (byTomb (gt xs k) : Int) < 0
        · have HZ := Lib.hid (szL_no (left := left) (n := totTomb xs) (by unfold totTomb; omega))
          have HN := Lib.hid (szL_no hneg)
          rw [hby] at HN
          have HC : Hid (∀ W, Calls Try.prog 35 #[.agg #[.string (gt xs k).1, .int .i64 (gt xs k).2], .int .i64 (left - xs.length - byToTomb xs k)] W fun e w' => e = .returned (.int .i64 (-1)) ∧ Below W.heap.size W w') := Lib.hid (fun W => by
            have := szTomb_any (gt xs k).1 (gt xs k).2 (left - xs.length - byToTomb xs k) W (by omega) (by omega) z0
            rw [HN.out] at this
            exact this)
          clear hst hby
          go_wp2_with (go_at_call 35; refine (HC.out _).mono ?_; rintro e w1 ⟨rfl, hb1⟩)
          go_ret
          exact ⟨ret_int HZ.out.symm, hbl.trans (hb1.mono hbl.size)⟩
        · have HN := Lib.hid (szL_yes (left := left - xs.length - byToTomb xs k) (n := byTomb (gt xs k)) (by omega))
          rw [hby] at HN
          have HST := Lib.hid hst
          have hd3 : decide (left - xs.length - byToTomb xs k - ((((gt xs k).1.size : Nat)) : Int) < 0) = false := by simp; omega
          rw [hby] at hneg
          have HC : Hid (∀ W, Calls Try.prog 35 #[.agg #[.string (gt xs k).1, .int .i64 (gt xs k).2], .int .i64 (left - xs.length - byToTomb xs k)] W fun e w' => e = .returned (.int .i64 (left - xs.length - byToTomb xs k - ((((gt xs k).1.size : Nat)) : Int))) ∧ Below W.heap.size W w') := Lib.hid (fun W => by
            have := szTomb_any (gt xs k).1 (gt xs k).2 (left - xs.length - byToTomb xs k) W (by omega) (by omega) z0
            rw [HN.out] at this
            exact this)
          clear hst hby
          go_wp2_with (go_at_call 35; refine (HC.out _).mono ?_; rintro e w1 ⟨rfl, hb1⟩)
          go_roundw
          case rel => exact ⟨k + 1, by omega, by go_num, by rw [HST.out]; unfold byTomb; go_num, by rw [HST.out]; unfold byTomb; omega, hbl.trans (hb1.mono hbl.size)⟩
          case measure => simp [intOf]; omega
      · obtain rfl : k = xs.length := by omega
        rw [byTo_allTomb] at hq ⊢
        have HZ := Lib.hid (show left - xs.length - ((xs.map byTomb).sum : Nat) = szL left (totTomb xs) by have := szL_yes (left := left) (n := totTomb xs) (by unfold totTomb; omega); unfold totTomb at this ⊢; omega)
        go_wp2_with fail
        go_ret
        exact ⟨ret_int HZ.out, hbl⟩end Go.Proofs.Ytnplpllhochlfaa
