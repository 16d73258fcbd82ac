import Derived.Test.YtnmgfpphihieiaaMark
import Derived.StillTailTactics
import Derived.Deep.RegionHeld3
namespace Go.Proofs.Ytnmgfpphihieiaa
open Go.RowKit
theorem info_Item : (Try.prog.info? 35).map (fun i => (i.zero, i.size, i.bytes)) = some (some (.agg #[.string ByteArray.empty, .string ByteArray.empty, .string ByteArray.empty, .int .i64 0]), 4, 56) := by kernel_rfl
abbrev ElItem : Type := ByteArray × ByteArray × ByteArray × Int
/-- Its cells. -/
def encItem (p : ElItem) : Nat → Value
  | 0 => Value.string (p.1)
  | 1 => Value.string (p.2.1)
  | 2 => Value.string (p.2.2.1)
  | _ => Value.int .i64 (p.2.2.2)
theorem encItem_one (p : ElItem) (i : Nat) : (encItem p i).oneCell' = true := by unfold encItem; split <;> rfl

theorem toItem_any (a : ByteArray) (b : ByteArray) (c : ByteArray) (d : Int) (w : World) : Calls Try.prog 17 #[.agg #[.string a, .string b, .string c, .int .i64 d]] w fun e w' => e = .returned (.agg #[.string a, .string b, .string c, .int .i64 d]) ∧ Below w.heap.size w w' := by
  go_enter Try.func17, Try.ntmps17
  go_wp2
  refine bodyPost_ret (v := .agg #[.string a, .string b, .string c, .int .i64 d]) (by simp [results, Try.results17, go_sem]) rfl ⟨rfl, ?_⟩
  repeat (first | exact Below.refl _ _ | refine Below.alloc ?_ (by simp; try omega) _ | refine Below.setCell ?_ (by simp; try omega) _)

theorem stood_Item : Try.prog.stoodInHeld 35 = false := by kernel_rfl
theorem guard_Item : Try.prog.eqGuardType Try.prog.depth 35 = false := by kernel_rfl
theorem eqIn_Item (a : ByteArray) (b : ByteArray) (c : ByteArray) (d : Int) (p : ByteArray) (q : ByteArray) (r : ByteArray) (s : Int) (w : World) : (Op.equalIn 10000 35 (.agg #[.string a, .string b, .string c, .int .i64 d]) (.agg #[.string p, .string q, .string r, .int .i64 s])).run Try.prog w = .ok (eqEl (α := ElItem) (a, b, c, d) (p, q, r, s)) w := by
  rw [run_equalIn_agg w 9999 35 _ _ (by rw [Program.fieldsOf, Try.underlying35]) stood_Item]
  simp only [Program.fieldsOf, Try.underlying35]
  simp [go_sem, Try.underlying9, Try.underlying3]
  by_cases h0 : a = p <;> by_cases h1 : b = q <;> by_cases h2 : c = r <;> by_cases h3 : d = s <;> simp [eqEl, ba_list, *]
theorem neq_Item (a : ByteArray) (b : ByteArray) (c : ByteArray) (d : Int) (p : ByteArray) (q : ByteArray) (r : ByteArray) (s : Int) (w : World) : (binOp .neq 35 (.agg #[.string a, .string b, .string c, .int .i64 d]) (.agg #[.string p, .string q, .string r, .int .i64 s])).run Try.prog w = .ok (.bool (!eqEl (α := ElItem) (a, b, c, d) (p, q, r, s))) w := by
  rw [run_neq_struct, eqIn_Item]; rfl
theorem eql_Item (a : ByteArray) (b : ByteArray) (c : ByteArray) (d : Int) (p : ByteArray) (q : ByteArray) (r : ByteArray) (s : Int) (w : World) : (binOp .eql 35 (.agg #[.string a, .string b, .string c, .int .i64 d]) (.agg #[.string p, .string q, .string r, .int .i64 s])).run Try.prog w = .ok (.bool (eqEl (α := ElItem) (a, b, c, d) (p, q, r, s))) w := by
  rw [run_eql_struct, eqIn_Item]; rfl
/-- What marking leaves in the cells. -/
def mkItem (k : Int) (j : Nat) : Value :=
  match j % 4 with
  | 0 => Value.string (mtext (k + j))
  | 1 => Value.string (mtext (k + j))
  | 2 => Value.string (mtext (k + j))
  | _ => Value.int .i64 (k + j)
theorem mkItem_0 (k : Int) (j : Nat) : mkItem k (j * 4) = Value.string (mtext (k + (j : Int) * 4)) := by
  unfold mkItem
  rw [show (j * 4) % 4 = 0 by omega, show (k + ((j * 4 : Nat) : Int)) = k + (j : Int) * 4 by omega]
  rfl
theorem mkItem_1 (k : Int) (j : Nat) : mkItem k (j * 4 + 1) = Value.string (mtext (k + (j : Int) * 4 + 1)) := by
  unfold mkItem
  rw [show (j * 4 + 1) % 4 = 1 by omega, show (k + ((j * 4 + 1 : Nat) : Int)) = k + (j : Int) * 4 + 1 by omega]
  rfl
theorem mkItem_2 (k : Int) (j : Nat) : mkItem k (j * 4 + 2) = Value.string (mtext (k + (j : Int) * 4 + 1 + 1)) := by
  unfold mkItem
  rw [show (j * 4 + 2) % 4 = 2 by omega, show (k + ((j * 4 + 2 : Nat) : Int)) = k + (j : Int) * 4 + 1 + 1 by omega]
  rfl
theorem mkItem_3 (k : Int) (j : Nat) : mkItem k (j * 4 + 3) = Value.int .i64 (k + (j : Int) * 4 + 1 + 1 + 1) := by
  unfold mkItem
  rw [show (j * 4 + 3) % 4 = 3 by omega, show (k + ((j * 4 + 3 : Nat) : Int)) = k + (j : Int) * 4 + 1 + 1 + 1 by omega]
  rfl
/-- How many bytes it has. -/
def byItem (x : ElItem) : Nat := x.1.size + x.2.1.size + x.2.2.1.size
/-- How many bytes they have, and one each. -/
def totItem (xs : List ElItem) : Nat := xs.length + (xs.map byItem).sum
/-- Those of the first k. -/
def byToItem (xs : List ElItem) (k : Nat) : Nat := ((xs.take k).map byItem).sum
theorem sum_leItem (xs : List ElItem) (k : Nat) : byToItem xs k ≤ (xs.map byItem).sum := by
  unfold byToItem
  conv => rhs; rw [← List.take_append_drop k xs, List.map_append, List.sum_append]
  omega
theorem sum_stepItem {xs : List ElItem} {k : Nat} (h : k < xs.length) : byToItem xs (k + 1) = byToItem xs k + byItem (gt xs k) := by
  unfold byToItem
  rw [take_snoc h, List.map_append, List.sum_append]; simp
theorem byTo_zeroItem (xs : List ElItem) : byToItem xs 0 = 0 := rfl
theorem byTo_allItem (xs : List ElItem) : byToItem xs xs.length = (xs.map byItem).sum := by unfold byToItem; rw [List.take_length]
theorem szItem_any (a : ByteArray) (b : ByteArray) (c : ByteArray) (d : Int) (left : Int) (w : World) (h0 : 0 ≤ left) (h1 : left ≤ 1048576) (hs0 : a.size ≤ maxLen) (hs1 : b.size ≤ maxLen) (hs2 : c.size ≤ maxLen) :
    Calls Try.prog 15 #[.agg #[.string a, .string b, .string c, .int .i64 d], .int .i64 left] w fun e w' => e = .returned (.int .i64 (szL left (a.size + b.size + c.size))) ∧ Below w.heap.size w w' := by
  unfold maxLen at hs0 hs1 hs2
  by_cases hz0 : left - (a.size : Int) < 0
  · have hd0 : decide (left - (a.size : Int) < 0) = true := by simp [hz0]
    have HZ := Lib.hid (szL_no (left := left) (n := a.size + b.size + c.size) (by omega))
    go_enter Try.func15, Try.ntmps15
    go_wp2_with fail
    go_ret
    exact ⟨ret_int HZ.out.symm, (Below.refl _ _).alloc (Nat.le_refl _) _⟩
  · have hd0 : decide (left - (a.size : Int) < 0) = false := by simp; omega
    by_cases hz1 : left - (a.size : Int) - (b.size : Int) < 0
    · have hd1 : decide (left - (a.size : Int) - (b.size : Int) < 0) = true := by simp [hz1]
      have HZ := Lib.hid (szL_no (left := left) (n := a.size + b.size + c.size) (by omega))
      go_enter Try.func15, Try.ntmps15
      go_wp2_with fail
      go_ret
      exact ⟨ret_int HZ.out.symm, (Below.refl _ _).alloc (Nat.le_refl _) _⟩
    · have hd1 : decide (left - (a.size : Int) - (b.size : Int) < 0) = false := by simp; omega
      by_cases hz2 : left - (a.size : Int) - (b.size : Int) - (c.size : Int) < 0
      · have hd2 : decide (left - (a.size : Int) - (b.size : Int) - (c.size : Int) < 0) = true := by simp [hz2]
        have HZ := Lib.hid (szL_no (left := left) (n := a.size + b.size + c.size) (by omega))
        go_enter Try.func15, Try.ntmps15
        go_wp2_with fail
        go_ret
        exact ⟨ret_int HZ.out.symm, (Below.refl _ _).alloc (Nat.le_refl _) _⟩
      · have hd2 : decide (left - (a.size : Int) - (b.size : Int) - (c.size : Int) < 0) = false := by simp; omega
        have HZ := Lib.hid (show left - (a.size : Int) - (b.size : Int) - (c.size : Int) = szL left (a.size + b.size + c.size) by have := szL_yes (left := left) (n := a.size + b.size + c.size) (by omega); omega)
        go_enter Try.func15, Try.ntmps15
        go_wp2_with fail
        go_ret
        exact ⟨ret_int HZ.out, (Below.refl _ _).alloc (Nat.le_refl _) _⟩
