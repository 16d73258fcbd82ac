import Derived.Test.YtfnmlffpnmmcdaaMark
import Derived.StillTailTactics
import Derived.Deep.RegionHeld3
namespace Go.Proofs.Ytfnmlffpnmmcdaa
open Go.RowKit
theorem info_Item : (Try.prog.info? 68).map (fun i => (i.zero, i.size, i.bytes)) = some (some (.agg #[.string ByteArray.empty, .string ByteArray.empty, .string ByteArray.empty, .int .i64 0]), 4, 56) := by kernel_rfl
abbrev ElItem : Type := ByteArray × ByteArray × ByteArray × Int
/-- Its cells. -/
def encItem (p : ElItem) : Nat → Value
  | 0 => Value.string (p.1)
  | 1 => Value.string (p.2.1)
  | 2 => Value.string (p.2.2.1)
  | _ => Value.int .i64 (p.2.2.2)
theorem encItem_one (p : ElItem) (i : Nat) : (encItem p i).oneCell' = true := by unfold encItem; split <;> rfl

theorem toItem_any (a : ByteArray) (b : ByteArray) (c : ByteArray) (d : Int) (w : World) : Calls Try.prog 45 #[.agg #[.string a, .string b, .string c, .int .i64 d]] w fun e w' => e = .returned (.agg #[.string a, .string b, .string c, .int .i64 d]) ∧ Below w.heap.size w w' := by
  go_enter Try.func45, Try.ntmps45
  go_wp2
  refine bodyPost_ret (v := .agg #[.string a, .string b, .string c, .int .i64 d]) (by simp [results, Try.results45, go_sem]) rfl ⟨rfl, ?_⟩
  repeat (first | exact Below.refl _ _ | refine Below.alloc ?_ (by simp; try omega) _ | refine Below.setCell ?_ (by simp; try omega) _)

theorem stood_Item : Try.prog.stoodInHeld 68 = false := by kernel_rfl
theorem guard_Item : Try.prog.eqGuardType Try.prog.depth 68 = false := by kernel_rfl
theorem eqIn_Item (a : ByteArray) (b : ByteArray) (c : ByteArray) (d : Int) (p : ByteArray) (q : ByteArray) (r : ByteArray) (s : Int) (w : World) : (Op.equalIn 10000 68 (.agg #[.string a, .string b, .string c, .int .i64 d]) (.agg #[.string p, .string q, .string r, .int .i64 s])).run Try.prog w = .ok (eqEl (α := ElItem) (a, b, c, d) (p, q, r, s)) w := by
  rw [run_equalIn_agg w 9999 68 _ _ (by rw [Program.fieldsOf, Try.underlying68]) stood_Item]
  simp only [Program.fieldsOf, Try.underlying68]
  simp [go_sem, Try.underlying9, Try.underlying3]
  by_cases h0 : a = p <;> by_cases h1 : b = q <;> by_cases h2 : c = r <;> by_cases h3 : d = s <;> simp [eqEl, ba_list, *]
theorem neq_Item (a : ByteArray) (b : ByteArray) (c : ByteArray) (d : Int) (p : ByteArray) (q : ByteArray) (r : ByteArray) (s : Int) (w : World) : (binOp .neq 68 (.agg #[.string a, .string b, .string c, .int .i64 d]) (.agg #[.string p, .string q, .string r, .int .i64 s])).run Try.prog w = .ok (.bool (!eqEl (α := ElItem) (a, b, c, d) (p, q, r, s))) w := by
  rw [run_neq_struct, eqIn_Item]; rfl
theorem eql_Item (a : ByteArray) (b : ByteArray) (c : ByteArray) (d : Int) (p : ByteArray) (q : ByteArray) (r : ByteArray) (s : Int) (w : World) : (binOp .eql 68 (.agg #[.string a, .string b, .string c, .int .i64 d]) (.agg #[.string p, .string q, .string r, .int .i64 s])).run Try.prog w = .ok (.bool (eqEl (α := ElItem) (a, b, c, d) (p, q, r, s))) w := by
  rw [run_eql_struct, eqIn_Item]; rfl
theorem eqItem_any (a : ByteArray) (b : ByteArray) (c : ByteArray) (d : Int) (p : ByteArray) (q : ByteArray) (r : ByteArray) (s : Int) (w : World) : Calls Try.prog 46 #[.agg #[.string a, .string b, .string c, .int .i64 d], .agg #[.string p, .string q, .string r, .int .i64 s]] w fun e w' => e = .returned (.bool (eqEl (α := ElItem) (a, b, c, d) (p, q, r, s))) ∧ Below w.heap.size w w' := by
  by_cases h0 : a = p
  · have b0 : (a.toList == p.toList) = true := by rw [seq_eql]; simp [seq, h0]
    have b0n : (a.toList != p.toList) = false := by rw [seq_neq]; simp [seq, h0]
    by_cases h1 : b = q
    · have b1 : (b.toList == q.toList) = true := by rw [seq_eql]; simp [seq, h1]
      have b1n : (b.toList != q.toList) = false := by rw [seq_neq]; simp [seq, h1]
      by_cases h2 : c = r
      · have b2 : (c.toList == r.toList) = true := by rw [seq_eql]; simp [seq, h2]
        have b2n : (c.toList != r.toList) = false := by rw [seq_neq]; simp [seq, h2]
        by_cases h3 : d = s
        · have b3 : (d != s) = false := by simp [h3]
          have HQ := Lib.hid (eqEl_true (α := ElItem) (show ((a, b, c, d) : ElItem) = (p, q, r, s) by simp [*]))
          clear h0 h1 h2 h3
          go_enter Try.func46, Try.ntmps46
          go_wp2
          go_ret
          exact ⟨ret_bool HQ.out.symm, (((Below.refl _ _).alloc (Nat.le_refl _) _).alloc (by simp) _)⟩
        · have b3 : (d != s) = true := by simp [h3]
          have HQ := Lib.hid (eqEl_false (α := ElItem) (show ((a, b, c, d) : ElItem) ≠ (p, q, r, s) by simp [*]))
          clear h0 h1 h2 h3
          go_enter Try.func46, Try.ntmps46
          go_wp2
          go_ret
          exact ⟨ret_bool HQ.out.symm, (((Below.refl _ _).alloc (Nat.le_refl _) _).alloc (by simp) _)⟩
      · have b2 : (c.toList == r.toList) = false := by rw [seq_eql]; simp [seq, h2]
        have b2n : (c.toList != r.toList) = true := by rw [seq_neq]; simp [seq, h2]
        have HQ := Lib.hid (eqEl_false (α := ElItem) (show ((a, b, c, d) : ElItem) ≠ (p, q, r, s) by simp [*]))
        clear h0 h1 h2
        go_enter Try.func46, Try.ntmps46
        go_wp2
        go_ret
        exact ⟨ret_bool HQ.out.symm, (((Below.refl _ _).alloc (Nat.le_refl _) _).alloc (by simp) _)⟩
    · have b1 : (b.toList == q.toList) = false := by rw [seq_eql]; simp [seq, h1]
      have b1n : (b.toList != q.toList) = true := by rw [seq_neq]; simp [seq, h1]
      have HQ := Lib.hid (eqEl_false (α := ElItem) (show ((a, b, c, d) : ElItem) ≠ (p, q, r, s) by simp [*]))
      clear h0 h1
      go_enter Try.func46, Try.ntmps46
      go_wp2
      go_ret
      exact ⟨ret_bool HQ.out.symm, (((Below.refl _ _).alloc (Nat.le_refl _) _).alloc (by simp) _)⟩
  · have b0 : (a.toList == p.toList) = false := by rw [seq_eql]; simp [seq, h0]
    have b0n : (a.toList != p.toList) = true := by rw [seq_neq]; simp [seq, h0]
    have HQ := Lib.hid (eqEl_false (α := ElItem) (show ((a, b, c, d) : ElItem) ≠ (p, q, r, s) by simp [*]))
    clear h0
    go_enter Try.func46, Try.ntmps46
    go_wp2
    go_ret
    exact ⟨ret_bool HQ.out.symm, (((Below.refl _ _).alloc (Nat.le_refl _) _).alloc (by simp) _)⟩
theorem toItemS_any (A : Option Addr) (cap B : Nat) (xs : List ElItem) (w : World) (h : RdE 4 encItem w B A xs) (hB : B ≤ w.heap.size) (hl : xs.length ≤ 1048576) :
    Calls Try.prog 27 #[.slice A xs.length cap] w fun e w' => ∃ A' : Option Addr, e = .returned (.slice A' xs.length xs.length) ∧ OwnE 4 encItem 68 w' w.heap.size A' xs.length xs ∧ Below w.heap.size w w' := by
  have hmk := mk_run (P := Try.prog) 25 68 _ _ _ Try.underlying25 info_Item xs.length (by omega) (by omega)
  go_enter Try.func27, Try.ntmps27
  go_wp2_with fail
  have hst := Own.made w 68 4 xs.length #[.string ByteArray.empty, .string ByteArray.empty, .string ByteArray.empty, .int .i64 0] encItem (by simp only [maxLen]; omega) rfl (fun i hi => by rcases (by omega : i = 0 ∨ i = 1 ∨ i = 2 ∨ i = 3) with rfl | rfl | rfl | rfl <;> rfl)
  go_loopw [4] (fun i wr => ∃ k : Nat, k ≤ xs.length ∧ i = .int .i64 k ∧ Own wr w.heap.size 68 4 (some ⟨w.heap.size, 0, none⟩) xs.length xs.length (cE 4 encItem (xs.take k)) ∧ Below w.heap.size w wr) (fun i _ => xs.length - (intOf i).toNat)
  case atStart => exact ⟨0, Nat.zero_le _, rfl, hst, (Below.refl _ _).alloc (Nat.le_refl _) _⟩
  case round =>
    clear hst
    obtain ⟨k, hk, rfl, hown, hbl⟩ := hrel
    by_cases hlt : k < xs.length
    · obtain ⟨b, off, rfl, hb, hc⟩ := (h.below (hbl.mono hB)).at_ (by omega)
      have c0 : wr.cell? ⟨b, off + k * 4, none⟩ = some (Value.string ((gt xs k).1)) := hc k 0 (by omega) (by omega)
      have c1 : wr.cell? ⟨b, off + k * 4 + 1, none⟩ = some (Value.string ((gt xs k).2.1)) := hc k 1 (by omega) (by omega)
      have c2 : wr.cell? ⟨b, off + k * 4 + 2, none⟩ = some (Value.string ((gt xs k).2.2.1)) := hc k 2 (by omega) (by omega)
      have c3 : wr.cell? ⟨b, off + k * 4 + 3, none⟩ = some (Value.int .i64 ((gt xs k).2.2.2)) := hc k 3 (by omega) (by omega)
      clear hc
      go_wp2_with fail
      refine (toItem_any _ _ _ _ _).mono ?_
      rintro e w1 ⟨rfl, hb1⟩
      have hown1 := Own.below hown hb1
      have d0 := hown1.cell rfl (j := k * 4) (by omega)
      have e0 := hown1.frozen rfl (k * 4)
      have d1 := hown1.cell rfl (j := k * 4 + 1) (by omega)
      have e1 := hown1.frozen rfl (k * 4 + 1)
      have d2 := hown1.cell rfl (j := k * 4 + 2) (by omega)
      have e2 := hown1.frozen rfl (k * 4 + 2)
      have d3 := hown1.cell rfl (j := k * 4 + 3) (by omega)
      have e3 := hown1.frozen rfl (k * 4 + 3)
      have s0 := (hown1).set rfl (j := k * 4) (Value.string ((gt xs k).1))
      have s1 := (s0.1).set rfl (j := k * 4 + 1) (Value.string ((gt xs k).2.1))
      have s2 := (s1.1).set rfl (j := k * 4 + 2) (Value.string ((gt xs k).2.2.1))
      have s3 := (s2.1).set rfl (j := k * 4 + 3) (Value.int .i64 ((gt xs k).2.2.2))
      have HS := Lib.hid s3.1
      have HG := Lib.hid ((((s0.2).trans s1.2).trans s2.2).trans s3.2)
      have HX := Lib.hid (hbl.trans (hb1.mono hbl.size))
      have hsz := Nat.le_trans hbl.size hb1.size
      clear s0 s1 s2 s3 hown hown1 hbl hb1
      go_wp2_with fail
      go_roundw
      case rel => exact ⟨k + 1, by omega, by go_num, Own.congr HS.out (fun j _ => by
          rw [cE_take_step encItem]
          exact set_cells_4 k j _ _ _ _ rfl rfl rfl rfl), HX.out.trans (grown_below HG.out (fun b hb => by simp [blk] at hb; omega) hsz)⟩
      case measure => simp [intOf]; omega
    · obtain rfl : k = xs.length := by omega
      go_wp2_with fail
      go_ret
      rw [List.take_of_length_le (Nat.le_refl _)] at hown
      exact ⟨_, rfl, hown, hbl⟩
theorem eqItemS_any (A A' : Option Addr) (cap cap' B : Nat) (xs ys : List ElItem) (w : World) (h : RdE 4 encItem w B A xs) (h' : RdE 4 encItem w B A' ys) (hB : B ≤ w.heap.size) (hl : xs.length ≤ 140737488351232) (hl' : ys.length ≤ 140737488351232) :
    Calls Try.prog 30 #[.slice A xs.length cap, .slice A' ys.length cap'] w fun e w' => e = .returned (.bool (sameB xs ys)) ∧ Below w.heap.size w w' := by
  by_cases hlen : xs.length = ys.length
  · have HL := Lib.hid hlen
    have hd : ((xs.length : Int) != (ys.length : Int)) = false := by rw [hlen]; simp
    have hle : xs.length ≤ ys.length := by omega
    clear hlen
    go_enter Try.func30, Try.ntmps30
    go_wp2_with fail
    go_loopw [5] (fun i wr => ∃ k : Nat, k ≤ xs.length ∧ Hid (∀ j, j < k → gt xs j = gt ys j) ∧ i = .int .i64 k ∧ Below w.heap.size w wr) (fun i _ => xs.length - (intOf i).toNat)
    case atStart => exact ⟨0, Nat.zero_le _, Lib.hid (fun j hj => absurd hj (by omega)), rfl, Below.refl _ _⟩
    case round =>
      obtain ⟨k, hk, HO, rfl, hbl⟩ := hrel
      by_cases hlt : k < xs.length
      · obtain ⟨b, off, rfl, hb, hc⟩ := (h.below (hbl.mono hB)).at_ (by omega)
        obtain ⟨b', off', rfl, hb', hc'⟩ := (h'.below (hbl.mono hB)).at_ (by omega)
        have c0 : wr.cell? ⟨b, off + k * 4, none⟩ = some (Value.string ((gt xs k).1)) := hc k 0 (by omega) (by omega)
        have c1 : wr.cell? ⟨b, off + k * 4 + 1, none⟩ = some (Value.string ((gt xs k).2.1)) := hc k 1 (by omega) (by omega)
        have c2 : wr.cell? ⟨b, off + k * 4 + 2, none⟩ = some (Value.string ((gt xs k).2.2.1)) := hc k 2 (by omega) (by omega)
        have c3 : wr.cell? ⟨b, off + k * 4 + 3, none⟩ = some (Value.int .i64 ((gt xs k).2.2.2)) := hc k 3 (by omega) (by omega)
        have d0 : wr.cell? ⟨b', off' + k * 4, none⟩ = some (Value.string ((gt ys k).1)) := hc' k 0 (by omega) (by omega)
        have d1 : wr.cell? ⟨b', off' + k * 4 + 1, none⟩ = some (Value.string ((gt ys k).2.1)) := hc' k 1 (by omega) (by omega)
        have d2 : wr.cell? ⟨b', off' + k * 4 + 2, none⟩ = some (Value.string ((gt ys k).2.2.1)) := hc' k 2 (by omega) (by omega)
        have d3 : wr.cell? ⟨b', off' + k * 4 + 3, none⟩ = some (Value.int .i64 ((gt ys k).2.2.2)) := hc' k 3 (by omega) (by omega)
        have hlt' : k < ys.length := by omega
        clear hc hc'
        by_cases hne : gt xs k = gt ys k
        · have hn : eqEl (α := ElItem) ((gt xs k).1, (gt xs k).2.1, (gt xs k).2.2.1, (gt xs k).2.2.2) ((gt ys k).1, (gt ys k).2.1, (gt ys k).2.2.1, (gt ys k).2.2.2) = true := eqEl_true hne
          have HN := Lib.hid hne; clear hne
          go_wp2_with fail
          go_still_tail 8, (by kernel_rfl)
          go_wp2_with (go_at_call 46; refine (eqItem_any _ _ _ _ _ _ _ _ _).mono ?_; rintro e w1 ⟨rfl, hb1⟩)
          go_roundw
          case rel => exact ⟨k + 1, by omega, Lib.hid (fun j hj => by
            rcases Nat.lt_succ_iff_lt_or_eq.1 hj with h1 | rfl
            · exact HO.out j h1
            · exact HN.out), by go_num, hbl.trans ((below_drew1 _).trans hb1 |> (·.mono hbl.size))⟩
          case measure => simp [intOf]; omega
        · have hn : eqEl (α := ElItem) ((gt xs k).1, (gt xs k).2.1, (gt xs k).2.2.1, (gt xs k).2.2.2) ((gt ys k).1, (gt ys k).2.1, (gt ys k).2.2.1, (gt ys k).2.2.2) = false := eqEl_false hne
          have HN := Lib.hid hne; clear hne
          go_wp2_with fail
          go_still_tail 8, (by kernel_rfl)
          go_wp2_with (go_at_call 46; refine (eqItem_any _ _ _ _ _ _ _ _ _).mono ?_; rintro e w1 ⟨rfl, hb1⟩)
          go_ret
          exact ⟨ret_bool (sameB_at HN.out).symm, hbl.trans ((below_drew1 _).trans hb1 |> (·.mono hbl.size))⟩
      · obtain rfl : k = xs.length := by omega
        go_wp2_with fail
        go_ret
        exact ⟨ret_bool (sameB_true HL.out HO.out).symm, hbl⟩
  · have hd : ((xs.length : Int) != (ys.length : Int)) = true := by simp; omega
    go_enter Try.func30, Try.ntmps30
    go_wp2_with fail
    go_ret
    exact ⟨ret_bool (sameB_len hlen).symm, Below.refl _ _⟩
/-- What marking leaves in the cells. -/
def mkItem (k : Int) (j : Nat) : Value :=
  match j % 4 with
  | 0 => Value.string (mtext (k + j))
  | 1 => Value.string (mtext (k + j))
  | 2 => Value.string (mtext (k + j))
  | _ => Value.int .i64 (k + j)
theorem mkItem_0 (k : Int) (j : Nat) : mkItem k (j * 4) = Value.string (mtext (k + (j : Int) * 4)) := by
  unfold mkItem
  rw [show (j * 4) % 4 = 0 by omega, show (k + ((j * 4 : Nat) : Int)) = k + (j : Int) * 4 by omega]
  rfl
theorem mkItem_1 (k : Int) (j : Nat) : mkItem k (j * 4 + 1) = Value.string (mtext (k + (j : Int) * 4 + 1)) := by
  unfold mkItem
  rw [show (j * 4 + 1) % 4 = 1 by omega, show (k + ((j * 4 + 1 : Nat) : Int)) = k + (j : Int) * 4 + 1 by omega]
  rfl
theorem mkItem_2 (k : Int) (j : Nat) : mkItem k (j * 4 + 2) = Value.string (mtext (k + (j : Int) * 4 + 1 + 1)) := by
  unfold mkItem
  rw [show (j * 4 + 2) % 4 = 2 by omega, show (k + ((j * 4 + 2 : Nat) : Int)) = k + (j : Int) * 4 + 1 + 1 by omega]
  rfl
theorem mkItem_3 (k : Int) (j : Nat) : mkItem k (j * 4 + 3) = Value.int .i64 (k + (j : Int) * 4 + 1 + 1 + 1) := by
  unfold mkItem
  rw [show (j * 4 + 3) % 4 = 3 by omega, show (k + ((j * 4 + 3 : Nat) : Int)) = k + (j : Int) * 4 + 1 + 1 + 1 by omega]
  rfl
/-- How many bytes it has. -/
def byItem (x : ElItem) : Nat := x.1.size + x.2.1.size + x.2.2.1.size
/-- How many bytes they have, and one each. -/
def totItem (xs : List ElItem) : Nat := xs.length + (xs.map byItem).sum
/-- Those of the first k. -/
def byToItem (xs : List ElItem) (k : Nat) : Nat := ((xs.take k).map byItem).sum
theorem sum_leItem (xs : List ElItem) (k : Nat) : byToItem xs k ≤ (xs.map byItem).sum := by
  unfold byToItem
  conv => rhs; rw [← List.take_append_drop k xs, List.map_append, List.sum_append]
  omega
theorem sum_stepItem {xs : List ElItem} {k : Nat} (h : k < xs.length) : byToItem xs (k + 1) = byToItem xs k + byItem (gt xs k) := by
  unfold byToItem
  rw [take_snoc h, List.map_append, List.sum_append]; simp
theorem byTo_zeroItem (xs : List ElItem) : byToItem xs 0 = 0 := rfl
theorem byTo_allItem (xs : List ElItem) : byToItem xs xs.length = (xs.map byItem).sum := by unfold byToItem; rw [List.take_length]
theorem szItem_any (a : ByteArray) (b : ByteArray) (c : ByteArray) (d : Int) (left : Int) (w : World) (h0 : 0 ≤ left) (h1 : left ≤ 1048576) (hs0 : a.size ≤ maxLen) (hs1 : b.size ≤ maxLen) (hs2 : c.size ≤ maxLen) :
    Calls Try.prog 44 #[.agg #[.string a, .string b, .string c, .int .i64 d], .int .i64 left] w fun e w' => e = .returned (.int .i64 (szL left (a.size + b.size + c.size))) ∧ Below w.heap.size w w' := by
  unfold maxLen at hs0 hs1 hs2
  by_cases hz0 : left - (a.size : Int) < 0
  · have hd0 : decide (left - (a.size : Int) < 0) = true := by simp [hz0]
    have HZ := Lib.hid (szL_no (left := left) (n := a.size + b.size + c.size) (by omega))
    go_enter Try.func44, Try.ntmps44
    go_wp2_with fail
    go_ret
    exact ⟨ret_int HZ.out.symm, (Below.refl _ _).alloc (Nat.le_refl _) _⟩
  · have hd0 : decide (left - (a.size : Int) < 0) = false := by simp; omega
    by_cases hz1 : left - (a.size : Int) - (b.size : Int) < 0
    · have hd1 : decide (left - (a.size : Int) - (b.size : Int) < 0) = true := by simp [hz1]
      have HZ := Lib.hid (szL_no (left := left) (n := a.size + b.size + c.size) (by omega))
      go_enter Try.func44, Try.ntmps44
      go_wp2_with fail
      go_ret
      exact ⟨ret_int HZ.out.symm, (Below.refl _ _).alloc (Nat.le_refl _) _⟩
    · have hd1 : decide (left - (a.size : Int) - (b.size : Int) < 0) = false := by simp; omega
      by_cases hz2 : left - (a.size : Int) - (b.size : Int) - (c.size : Int) < 0
      · have hd2 : decide (left - (a.size : Int) - (b.size : Int) - (c.size : Int) < 0) = true := by simp [hz2]
        have HZ := Lib.hid (szL_no (left := left) (n := a.size + b.size + c.size) (by omega))
        go_enter Try.func44, Try.ntmps44
        go_wp2_with fail
        go_ret
        exact ⟨ret_int HZ.out.symm, (Below.refl _ _).alloc (Nat.le_refl _) _⟩
      · have hd2 : decide (left - (a.size : Int) - (b.size : Int) - (c.size : Int) < 0) = false := by simp; omega
        have HZ := Lib.hid (show left - (a.size : Int) - (b.size : Int) - (c.size : Int) = szL left (a.size + b.size + c.size) by have := szL_yes (left := left) (n := a.size + b.size + c.size) (by omega); omega)
        go_enter Try.func44, Try.ntmps44
        go_wp2_with fail
        go_ret
        exact ⟨ret_int HZ.out, (Below.refl _ _).alloc (Nat.le_refl _) _⟩
set_option maxHeartbeats 800000 in
theorem szItemS_any (A : Option Addr) (cap B : Nat) (xs : List ElItem) (left : Int) (w : World) (h : RdE 4 encItem w B A xs) (hB : B ≤ w.heap.size) (hl : xs.length ≤ 9223372036854775807) (hsz : ∀ k, k < xs.length → (gt xs k).1.size ≤ maxLen ∧ (gt xs k).2.1.size ≤ maxLen ∧ (gt xs k).2.2.1.size ≤ maxLen) (h0 : 0 ≤ left) (h1 : left ≤ 1048576) :
    Calls Try.prog 24 #[.slice A xs.length cap, .int .i64 left] w fun e w' => e = .returned (.int .i64 (szL left (totItem xs))) ∧ Below w.heap.size w w' := by
  by_cases hlt : left - (xs.length : Int) < 0
  · have hd : decide (left - (xs.length : Int) < 0) = true := by simp [hlt]
    have HZ := Lib.hid (szL_no (left := left) (n := totItem xs) (by unfold totItem; omega))
    go_enter Try.func24, Try.ntmps24
    go_wp2_with fail
    go_ret
    exact ⟨ret_int HZ.out.symm, Below.refl _ _⟩
  · have hd : decide (left - (xs.length : Int) < 0) = false := by simp; omega
    have HD := Lib.hid hsz
    clear hsz
    go_enter Try.func24, Try.ntmps24
    go_wp2_with fail
    go_loopw [1, 5] (fun q i wr => ∃ k : Nat, k ≤ xs.length ∧ i = .int .i64 k ∧ q = .int .i64 (left - xs.length - byToItem xs k) ∧ 0 ≤ left - xs.length - (byToItem xs k : Nat) ∧ Below w.heap.size w wr) (fun _ i _ => xs.length - (intOf i).toNat)
    case atStart => exact ⟨0, Nat.zero_le _, rfl, by rw [byTo_zeroItem]; simp, by rw [byTo_zeroItem]; simp; omega, Below.refl _ _⟩
    case round =>
      obtain ⟨k, hk, rfl, rfl, hq, hbl⟩ := hrel
      have hle := sum_leItem xs k
      by_cases hlt2 : k < xs.length
      · have hst := sum_stepItem hlt2
        have hle2 := sum_leItem xs (k + 1)
        obtain ⟨z0, z1, z2⟩ := HD.out k hlt2
        obtain ⟨b, off, rfl, hb, hc⟩ := (h.below (hbl.mono hB)).at_ (by omega)
        have c0 : wr.cell? ⟨b, off + k * 4, none⟩ = some (Value.string ((gt xs k).1)) := hc k 0 (by omega) (by omega)
        have c1 : wr.cell? ⟨b, off + k * 4 + 1, none⟩ = some (Value.string ((gt xs k).2.1)) := hc k 1 (by omega) (by omega)
        have c2 : wr.cell? ⟨b, off + k * 4 + 2, none⟩ = some (Value.string ((gt xs k).2.2.1)) := hc k 2 (by omega) (by omega)
        have c3 : wr.cell? ⟨b, off + k * 4 + 3, none⟩ = some (Value.int .i64 ((gt xs k).2.2.2)) := hc k 3 (by omega) (by omega)
        clear hc
        have hby : byItem (gt xs k) = (gt xs k).1.size + (gt xs k).2.1.size + (gt xs k).2.2.1.size := rfl
        by_cases hneg : left - xs.length - byToItem xs k - (byItem (gt xs k) : Int) < 0
        · have HZ := Lib.hid (szL_no (left := left) (n := totItem xs) (by unfold totItem; omega))
          have HN := Lib.hid (szL_no hneg)
          rw [hby] at HN
          have HC : Hid (∀ W, Calls Try.prog 44 #[.agg #[.string (gt xs k).1, .string (gt xs k).2.1, .string (gt xs k).2.2.1, .int .i64 (gt xs k).2.2.2], .int .i64 (left - xs.length - byToItem xs k)] W fun e w' => e = .returned (.int .i64 (-1)) ∧ Below W.heap.size W w') := Lib.hid (fun W => by
            have := szItem_any (gt xs k).1 (gt xs k).2.1 (gt xs k).2.2.1 (gt xs k).2.2.2 (left - xs.length - byToItem xs k) W (by omega) (by omega) z0 z1 z2
            rw [HN.out] at this
            exact this)
          clear hst hby
          go_wp2_with (go_at_call 44; refine (HC.out _).mono ?_; rintro e w1 ⟨rfl, hb1⟩)
          go_ret
          exact ⟨ret_int HZ.out.symm, hbl.trans (hb1.mono hbl.size)⟩
        · have HN := Lib.hid (szL_yes (left := left - xs.length - byToItem xs k) (n := byItem (gt xs k)) (by omega))
          rw [hby] at HN
          have HST := Lib.hid hst
          have hd3 : decide (left - xs.length - byToItem xs k - ((((gt xs k).1.size + (gt xs k).2.1.size + (gt xs k).2.2.1.size : Nat)) : Int) < 0) = false := by simp; omega
          rw [hby] at hneg
          have HC : Hid (∀ W, Calls Try.prog 44 #[.agg #[.string (gt xs k).1, .string (gt xs k).2.1, .string (gt xs k).2.2.1, .int .i64 (gt xs k).2.2.2], .int .i64 (left - xs.length - byToItem xs k)] W fun e w' => e = .returned (.int .i64 (left - xs.length - byToItem xs k - ((((gt xs k).1.size + (gt xs k).2.1.size + (gt xs k).2.2.1.size : Nat)) : Int))) ∧ Below W.heap.size W w') := Lib.hid (fun W => by
            have := szItem_any (gt xs k).1 (gt xs k).2.1 (gt xs k).2.2.1 (gt xs k).2.2.2 (left - xs.length - byToItem xs k) W (by omega) (by omega) z0 z1 z2
            rw [HN.out] at this
            exact this)
          clear hst hby
          go_wp2_with (go_at_call 44; refine (HC.out _).mono ?_; rintro e w1 ⟨rfl, hb1⟩)
          go_roundw
          case rel => exact ⟨k + 1, by omega, by go_num, by rw [HST.out]; unfold byItem; go_num, by rw [HST.out]; unfold byItem; omega, hbl.trans (hb1.mono hbl.size)⟩
          case measure => simp [intOf]; omega
      · obtain rfl : k = xs.length := by omega
        rw [byTo_allItem] at hq ⊢
        have HZ := Lib.hid (show left - xs.length - ((xs.map byItem).sum : Nat) = szL left (totItem xs) by have := szL_yes (left := left) (n := totItem xs) (by unfold totItem; omega); unfold totItem at this ⊢; omega)
        go_wp2_with fail
        go_ret
        exact ⟨ret_int HZ.out, hbl⟩end Go.Proofs.Ytfnmlffpnmmcdaa
