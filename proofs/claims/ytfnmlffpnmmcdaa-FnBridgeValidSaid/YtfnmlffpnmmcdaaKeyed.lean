/- Lists that are valid place by place; the first place at which something stands. No program in sight. -/
import Derived.Test.YtfnmlffpnmmcdaaElems
import Derived.Test.YtfnmlffpnmmcdaaRange
namespace Go.Proofs.Ytfnmlffpnmmcdaa
section
variable {α : Type}
/-- All places before k are in order. -/
def upTo (Ok : List α → Nat → Prop) (xs : List α) (k : Nat) : Prop := ∀ j, j < k → Ok xs j
/-- At most mx, and all places in order. -/
def Vd (Ok : List α → Nat → Prop) (mx : Nat) (xs : List α) : Prop := xs.length ≤ mx ∧ upTo Ok xs xs.length
variable {Ok : List α → Nat → Prop} {mx : Nat} {xs : List α} {k : Nat}
theorem upTo_zero : upTo Ok xs 0 := fun _ h => absurd h (by omega)
theorem upTo_succ (h : upTo Ok xs k) (h1 : Ok xs k) : upTo Ok xs (k + 1) := by
  intro j hj
  rcases Nat.lt_succ_iff_lt_or_eq.1 hj with h' | rfl
  · exact h j h'
  · exact h1
instance (xs : List α) (k : Nat) [h : ∀ xs k, Decidable (Ok xs k)] : Decidable (upTo Ok xs k) := Nat.decidableBallLT k (fun j _ => Ok xs j)
instance (xs : List α) [h : ∀ xs k, Decidable (Ok xs k)] : Decidable (Vd Ok mx xs) := inferInstanceAs (Decidable (_ ∧ _))
/-- Is it valid? -/
def vdB (Ok : List α → Nat → Prop) [∀ xs k, Decidable (Ok xs k)] (mx : Nat) (xs : List α) : Bool := decide (Vd Ok mx xs)
variable [∀ xs k, Decidable (Ok xs k)]
theorem vdB_true (h : Vd Ok mx xs) : vdB Ok mx xs = true := decide_eq_true h
theorem Vd.of (h : vdB Ok mx xs = true) : Vd Ok mx xs := of_decide_eq_true h
theorem vdB_long (h : mx < xs.length) : vdB Ok mx xs = false := decide_eq_false fun hv => by have := hv.1; omega
theorem vdB_bad (hk : k < xs.length) (h : ¬ Ok xs k) : vdB Ok mx xs = false := decide_eq_false fun hv => h (hv.2 k hk)
theorem vdB_no (h : ¬ Vd Ok mx xs) : vdB Ok mx xs = false := decide_eq_false h
theorem vdB_all (h : upTo Ok xs xs.length) : decide ((xs.length : Int) ≤ (mx : Int)) = vdB Ok mx xs := by
  unfold vdB
  by_cases hl : xs.length ≤ mx
  · rw [decide_eq_true (by omega : (xs.length : Int) ≤ (mx : Int)), decide_eq_true (show Vd Ok mx xs from ⟨hl, h⟩)]
  · rw [decide_eq_false (by omega : ¬ (xs.length : Int) ≤ (mx : Int)), decide_eq_false (fun hv : Vd Ok mx xs => hl hv.1)]
/-! ### The first place -/
/-- The first place at which p holds; the length if there is none. -/
def fi (p : α → Bool) : List α → Nat
  | [] => 0
  | x :: xs => if p x = true then 0 else fi p xs + 1
variable {p : α → Bool}
theorem fi_le : fi p xs ≤ xs.length := by
  induction xs with
  | nil => simp [fi]
  | cons x xs ih => rw [fi]; split <;> simp; omega
/-- The number of the first place, as the program tells it: -1 if there is none. -/
def ix (p : α → Bool) (xs : List α) : Int := if fi p xs < xs.length then (fi p xs : Int) else -1
theorem ix_lo : -1 ≤ ix p xs := by unfold ix; split <;> omega
theorem ix_hi : ix p xs < xs.length := by unfold ix; split <;> omega
variable [Inhabited α]
theorem fi_eq (hk : k ≤ xs.length) (h1 : ∀ j, j < k → p (gt xs j) = false) (h2 : k < xs.length → p (gt xs k) = true) : fi p xs = k := by
  induction xs generalizing k with
  | nil => simp at hk; subst hk; rfl
  | cons x xs ih =>
    cases k with
    | zero =>
      have := h2 (by simp)
      rw [gt_head] at this
      rw [fi, if_pos this]
    | succ k =>
      have h0 := h1 0 (by omega)
      rw [gt_head] at h0
      rw [fi, if_neg (by rw [h0]; simp), ih (by simpa using hk) (fun j hj => by have := h1 (j + 1) (by omega); rwa [gt_cons] at this) (fun hlt => by have := h2 (by simpa using hlt); rwa [gt_cons] at this)]
theorem fi_before {j : Nat} (hj : j < fi p xs) : p (gt xs j) = false := by
  induction xs generalizing j with
  | nil => simp [fi] at hj
  | cons x xs ih =>
    rw [fi] at hj
    by_cases h0 : p x = true
    · rw [if_pos h0] at hj; omega
    · rw [if_neg h0] at hj
      cases j with
      | zero => rw [gt_head]; simpa using h0
      | succ j => rw [gt_cons]; exact ih (by omega)
theorem fi_at (h : fi p xs < xs.length) : p (gt xs (fi p xs)) = true := by
  induction xs with
  | nil => simp at h
  | cons x xs ih =>
    rw [fi] at h ⊢
    by_cases h0 : p x = true
    · rw [if_pos h0, gt_head]; exact h0
    · rw [if_neg h0] at h ⊢
      rw [gt_cons]; exact ih (by simpa using h)
theorem ix_at (hk : k < xs.length) (h1 : ∀ j, j < k → p (gt xs j) = false) (h2 : p (gt xs k) = true) : ix p xs = k := by
  unfold ix; rw [fi_eq (by omega) h1 (fun _ => h2), if_pos hk]
theorem ix_none (h1 : ∀ j, j < xs.length → p (gt xs j) = false) : ix p xs = -1 := by
  unfold ix; rw [fi_eq (Nat.le_refl _) h1 (fun h => by omega), if_neg (Nat.lt_irrefl _)]
theorem ix_cases : (ix p xs = -1 ∧ ∀ j, j < xs.length → p (gt xs j) = false) ∨ ∃ k, k < xs.length ∧ ix p xs = k ∧ p (gt xs k) = true ∧ ∀ j, j < k → p (gt xs j) = false := by
  by_cases h : fi p xs < xs.length
  · exact .inr ⟨fi p xs, h, by rw [ix, if_pos h], fi_at h, fun j hj => fi_before hj⟩
  · have := fi_le (p := p) (xs := xs)
    refine .inl ⟨by rw [ix, if_neg h], fun j hj => fi_before (by omega)⟩
theorem ix_take_none (hk : k ≤ xs.length) (h : ∀ j, j < k → p (gt xs j) = false) : ix p (xs.take k) = -1 := ix_none fun j hj => by
  have hj' : j < k := by simp at hj; omega
  rw [gt_take hj']; exact h j hj'
theorem ix_take_some (hk : k ≤ xs.length) {j : Nat} (hj : j < k) (h : p (gt xs j) = true) : 0 ≤ ix p (xs.take k) := by
  rcases ix_cases (p := p) (xs := xs.take k) with ⟨_, h2⟩ | ⟨i, _, hi, _⟩
  · have := h2 j (by simp; omega)
    rw [gt_take hj, h] at this; cases this
  · omega
end
/-! ### Strings -/
theorem ba_list {a b : ByteArray} : a.toList = b.toList ↔ a = b := by
  constructor
  · intro h
    rw [ByteArray.toList_eq, ByteArray.toList_eq] at h
    cases a; cases b
    simp only at h
    rw [Array.toList_inj.1 h]
  · rintro rfl; rfl
/-- Are two texts the same? -/
def seq (a b : ByteArray) : Bool := decide (a = b)
theorem seq_true {a b : ByteArray} : seq a b = true ↔ a = b := by simp [seq]
theorem seq_false {a b : ByteArray} : seq a b = false ↔ a ≠ b := by simp [seq]
theorem seq_self (a : ByteArray) : seq a a = true := seq_true.2 rfl
theorem seq_eql (a b : ByteArray) : (a.toList == b.toList) = seq a b := by
  rw [Bool.eq_iff_iff, seq_true, beq_iff_eq, ba_list]
theorem seq_neq (a b : ByteArray) : (a.toList != b.toList) = !seq a b := by rw [← seq_eql]; rfl
end Go.Proofs.Ytfnmlffpnmmcdaa
