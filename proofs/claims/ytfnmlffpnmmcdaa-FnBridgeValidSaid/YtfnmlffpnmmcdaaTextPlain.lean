/- Plain laws of texts: valid ones, first sentences, cut ones. No program in sight. -/
import Derived.Test.YtfnmlffpnmmcdaaWords
import Derived.Test.YtfnmlffpnmmcdaaKeyed
namespace Go.Proofs.Ytfnmlffpnmmcdaa
theorem ret_st {a b : ByteArray} (h : a = b) : Ending.returned (.string a) = .returned (.string b) := by rw [h]
/-- The first k bytes are printable. -/
def tokTo (s : ByteArray) (k : Nat) : Prop := ∀ j, j < k → 32 ≤ bb s j ∧ bb s j ≤ 126
instance (s : ByteArray) (k : Nat) : Decidable (tokTo s k) := Nat.decidableBallLT k (fun j _ => 32 ≤ bb s j ∧ bb s j ≤ 126)
def Text (s : ByteArray) : Prop := s.size ≤ 80 ∧ tokTo s s.size
instance (s : ByteArray) : Decidable (Text s) := inferInstanceAs (Decidable (_ ∧ _))
/-- Is it a valid text? -/
def textB (s : ByteArray) : Bool := decide (Text s)
theorem textB_true {s : ByteArray} (h : Text s) : textB s = true := decide_eq_true h
theorem Text.of {s : ByteArray} (h : textB s = true) : Text s := of_decide_eq_true h
theorem textB_long {s : ByteArray} (h : 80 < s.size) : textB s = false := decide_eq_false fun ht => by have := ht.1; omega
theorem textB_bad {s : ByteArray} {k : Nat} (hk : k < s.size) (h : ¬ (32 ≤ bb s k ∧ bb s k ≤ 126)) : textB s = false := decide_eq_false fun ht => h (ht.2 k hk)
theorem tokTo_zero {s : ByteArray} : tokTo s 0 := fun _ h => absurd h (by omega)
theorem tokTo_succ {s : ByteArray} {k : Nat} (h : tokTo s k) (h1 : 32 ≤ bb s k ∧ bb s k ≤ 126) : tokTo s (k + 1) := by
  intro j hj
  rcases Nat.lt_succ_iff_lt_or_eq.1 hj with h' | rfl
  · exact h j h'
  · exact h1
theorem textB_all {s : ByteArray} (h : tokTo s s.size) : decide ((s.size : Int) ≤ 80) = textB s :=
  decide_eq_decide.2 ⟨fun hh => ⟨by omega, h⟩, fun hh => by have := hh.1; omega⟩
theorem ba_ext {a b : ByteArray} (h : a.toList = b.toList) : a = b := ba_list.1 h
theorem ba_size (s : ByteArray) : s.toList.length = s.size := by
  rw [ByteArray.toList_eq]; simp
theorem ba_bb {a b : ByteArray} (h : a.size = b.size) (hb : ∀ k, k < a.size → bb a k = bb b k) : a = b := by
  apply ByteArray.ext_getElem h
  intro k h1 h2
  have := hb k h1
  rw [← bb_eq a k h1, ← bb_eq b k h2] at this
  exact UInt8.toNat_inj.1 (by omega)
theorem bb_get {s : ByteArray} {k : Nat} (h : k < s.size) : bb s k = ((s.data.toList[k]?.getD 0).toNat : Int) := by
  rw [← bb_eq s k h]
  have : k < s.data.toList.length := by simpa using h
  rw [List.getElem?_eq_getElem this]; rfl
theorem bb_out {s : ByteArray} {k : Nat} (h : s.size ≤ k) : bb s k = 0 := by unfold bb; rw [dif_neg (by omega)]
theorem bb_extract {s : ByteArray} {a b k : Nat} (hb : b ≤ s.size) (hk : a + k < b) : bb (s.extract a b) k = bb s (a + k) := by
  have h1 : k < (s.extract a b).size := by rw [ByteArray.size_extract]; omega
  rw [← bb_eq _ k h1, ← bb_eq s (a + k) (by omega)]
  rw [ByteArray.getElem_extract]
theorem bb_left {a b : ByteArray} {k : Nat} (h : k < a.size) : bb (a ++ b) k = bb a k := by
  have h1 : k < (a ++ b).size := by rw [ByteArray.size_append]; omega
  rw [← bb_eq _ k h1, ← bb_eq a k h, ByteArray.getElem_append_left h]
theorem bb_right (a b : ByteArray) (k : Nat) : bb (a ++ b) (a.size + k) = bb b k := by
  by_cases h : k < b.size
  · have h1 : a.size + k < (a ++ b).size := by rw [ByteArray.size_append]; omega
    rw [← bb_eq _ _ h1, ← bb_eq b k h, ByteArray.getElem_append_right (by omega)]
    congr 3
    omega
  · rw [bb_out (by rw [ByteArray.size_append]; omega), bb_out (by omega)]
theorem size_ext {s : ByteArray} {a b : Nat} (hb : b ≤ s.size) : (s.extract a b).size = b - a := by rw [ByteArray.size_extract]; omega
theorem text_extract {s : ByteArray} {a b : Nat} (h : Text s) (hb : b ≤ s.size) : Text (s.extract a b) := by
  refine ⟨by rw [size_ext hb]; have := h.1; omega, fun j hj => ?_⟩
  rw [size_ext hb] at hj
  rw [bb_extract hb (by omega)]
  exact h.2 _ (by omega)
theorem ext_left {a b : ByteArray} {n : Nat} (h : a.size = n) : (a ++ b).extract 0 n = a := by
  subst h
  apply ba_bb
  · rw [size_ext (by rw [ByteArray.size_append]; omega)]; rfl
  · intro k hk
    rw [size_ext (by rw [ByteArray.size_append]; omega)] at hk
    rw [bb_extract (by rw [ByteArray.size_append]; omega) (by omega), Nat.zero_add, bb_left (by omega)]
theorem ext_right {a b : ByteArray} {n : Nat} (h : a.size = n) : (a ++ b).extract n (a ++ b).size = b := by
  subst h
  have hs : (a ++ b).size = a.size + b.size := ByteArray.size_append
  apply ba_bb
  · rw [size_ext (Nat.le_refl _)]; omega
  · intro k hk
    rw [size_ext (Nat.le_refl _)] at hk
    rw [bb_extract (Nat.le_refl _) (by omega), bb_right]
/-! ### First sentences -/
/-- Does a sentence end at k? -/
def fsB (s : ByteArray) (k : Nat) : Bool := decide (k + 1 < s.size ∧ (bb s k = 46 ∨ bb s k = 33 ∨ bb s k = 63) ∧ bb s (k + 1) = 32)
theorem fsB_true {s : ByteArray} {k : Nat} (h : k + 1 < s.size ∧ (bb s k = 46 ∨ bb s k = 33 ∨ bb s k = 63) ∧ bb s (k + 1) = 32) : fsB s k = true := decide_eq_true h
theorem fsB_false {s : ByteArray} {k : Nat} (h : ¬ (k + 1 < s.size ∧ (bb s k = 46 ∨ bb s k = 33 ∨ bb s k = 63) ∧ bb s (k + 1) = 32)) : fsB s k = false := decide_eq_false h
theorem fsB_of {s : ByteArray} {k : Nat} (h : fsB s k = true) : k + 1 < s.size ∧ (bb s k = 46 ∨ bb s k = 33 ∨ bb s k = 63) ∧ bb s (k + 1) = 32 := of_decide_eq_true h
theorem gt_range {n k : Nat} (h : k < n) : gt (List.range n) k = k := by unfold gt; simp [h]
/-- The first place at which one ends; the length if there is none. -/
def fsK (s : ByteArray) : Nat := fi (fsB s) (List.range s.size)
theorem fsK_le (s : ByteArray) : fsK s ≤ s.size := by have := fi_le (p := fsB s) (xs := List.range s.size); rwa [List.length_range] at this
theorem fsK_eq {s : ByteArray} {k : Nat} (hk : k ≤ s.size) (h1 : ∀ j, j < k → fsB s j = false) (h2 : k < s.size → fsB s k = true) : fsK s = k :=
  fi_eq (by rw [List.length_range]; exact hk) (fun j hj => by rw [gt_range (by omega)]; exact h1 j hj) (fun hlt => by rw [List.length_range] at hlt; rw [gt_range hlt]; exact h2 hlt)
theorem fsK_before {s : ByteArray} {j : Nat} (h : j < fsK s) : fsB s j = false := by
  have h1 := fsK_le s
  have := fi_before (p := fsB s) (xs := List.range s.size) (j := j) h
  rwa [gt_range (by omega)] at this
theorem fsK_at {s : ByteArray} (h : fsK s < s.size) : fsB s (fsK s) = true := by
  have := fi_at (p := fsB s) (xs := List.range s.size) (by rw [List.length_range]; exact h)
  unfold fsK at h ⊢
  rwa [gt_range h] at this
/-- How long it is. -/
def fsLen (s : ByteArray) : Nat := if fsK s < s.size then fsK s + 1 else s.size
theorem fsLen_le (s : ByteArray) : fsLen s ≤ s.size := by unfold fsLen; split <;> omega
theorem fsLen_at {s : ByteArray} {k : Nat} (h1 : ∀ j, j < k → fsB s j = false) (h : fsB s k = true) : fsLen s = k + 1 := by
  have hl := fsB_of h
  have := fsK_eq (s := s) (k := k) (by omega) h1 (fun _ => h)
  unfold fsLen; rw [this, if_pos (by omega)]
theorem fsLen_none {s : ByteArray} (h1 : ∀ j, j < s.size → fsB s j = false) : fsLen s = s.size := by
  have := fsK_eq (s := s) (k := s.size) (Nat.le_refl _) h1 (fun h => by omega)
  unfold fsLen; rw [this, if_neg (by omega)]
/-- FirstSentence's answer. -/
def fsOf (s : ByteArray) : ByteArray := if textB s = true then s.extract 0 (fsLen s) else { data := #[] }
theorem extract_all (s : ByteArray) : s.extract 0 s.size = s := by
  apply ba_ext
  rw [ByteArray.toList_eq, ByteArray.toList_eq, ByteArray.data_extract]
  congr 1
  exact Array.extract_size
theorem fsOf_no {s : ByteArray} (h : textB s = false) : fsOf s = { data := #[] } := if_neg (by rw [h]; simp)
theorem fsOf_yes {s : ByteArray} (h : textB s = true) : fsOf s = s.extract 0 (fsLen s) := if_pos h
theorem fsOf_all {s : ByteArray} (h : textB s = true) (h1 : ∀ j, j < s.size → fsB s j = false) : fsOf s = s := by
  rw [fsOf_yes h, fsLen_none h1, extract_all]
theorem fsOf_size (s : ByteArray) : (fsOf s).size ≤ s.size := by
  unfold fsOf
  split
  · rw [size_ext (fsLen_le s)]; have := fsLen_le s; omega
  · exact Nat.zero_le _
theorem fsOf_text {s : ByteArray} (h : textB s = true) : textB (fsOf s) = true := by
  rw [fsOf_yes h]; exact textB_true (text_extract (Text.of h) (fsLen_le s))
/-- It is its own first sentence. -/
theorem fsOf_twice {s : ByteArray} (h : textB s = true) : fsOf (fsOf s) = fsOf s := by
  refine fsOf_all (fsOf_text h) (fun j hj => fsB_false fun ⟨h1, h2, h3⟩ => ?_)
  rw [fsOf_yes h] at hj h1 h2 h3
  have hl := fsLen_le s
  rw [size_ext hl] at hj h1
  rw [bb_extract hl (by omega), Nat.zero_add] at h2
  rw [bb_extract hl (by omega), Nat.zero_add] at h3
  have hb : fsB s j = true := fsB_true ⟨by omega, h2, h3⟩
  have hk : ¬ j < fsK s := fun hlt => by rw [fsK_before hlt] at hb; cases hb
  unfold fsLen at h1
  split at h1
  · omega
  · next hn => have := fsK_le s; omega
/-! ### Cut texts -/
/-- The last end of a word up to e; 0 if there is none. -/
def ctE (s : ByteArray) : Nat → Nat
  | 0 => 0
  | e + 1 => if bb s (e + 1) = 32 ∧ bb s e ≠ 32 then e + 1 else ctE s e
theorem ctE_zero (s : ByteArray) : ctE s 0 = 0 := rfl
theorem ctE_yes {s : ByteArray} {e : Nat} (h1 : bb s (e + 1) = 32) (h2 : bb s e ≠ 32) : ctE s (e + 1) = e + 1 := if_pos ⟨h1, h2⟩
theorem ctE_no {s : ByteArray} {e : Nat} (h : ¬ (bb s (e + 1) = 32 ∧ bb s e ≠ 32)) : ctE s (e + 1) = ctE s e := if_neg h
theorem ctE_le (s : ByteArray) (e : Nat) : ctE s e ≤ e := by
  induction e with
  | zero => exact Nat.le_refl _
  | succ e ih => rw [ctE]; split <;> omega
/-- Where it is cut. -/
def ctAt (s : ByteArray) (m : Nat) : Nat := if ctE s (m - 2) = 0 then m - 2 else ctE s (m - 2)
theorem ctAt_le (s : ByteArray) (m : Nat) : ctAt s m ≤ m - 2 := by unfold ctAt; have := ctE_le s (m - 2); split <;> omega
theorem ctAt_pos (s : ByteArray) {m : Nat} (h : 3 ≤ m) : 0 < ctAt s m := by unfold ctAt; split <;> omega
theorem ctAt_zero {s : ByteArray} {m : Nat} (h : ctE s (m - 2) = 0) : ctAt s m = m - 2 := if_pos h
theorem ctAt_at {s : ByteArray} {m e : Nat} (h : ctE s (m - 2) = e) (h0 : 0 < e) : ctAt s m = e := by unfold ctAt; rw [h, if_neg (by omega)]
def dots : ByteArray := { data := #[46, 46] }
/-- CutText's answer. -/
def ctOf (s : ByteArray) (many : Int) : ByteArray := if (textB s && inB many 4 80) = true then (if (s.size : Int) ≤ many then s else s.extract 0 (ctAt s many.toNat) ++ dots) else { data := #[] }
theorem ctOf_no1 {s : ByteArray} {many : Int} (h : textB s = false) : ctOf s many = { data := #[] } := if_neg (by rw [h]; simp)
theorem ctOf_no2 {s : ByteArray} {many : Int} (h : inB many 4 80 = false) : ctOf s many = { data := #[] } := if_neg (by rw [h]; simp)
theorem ctOf_all {s : ByteArray} {many : Int} (h : textB s = true) (h2 : inB many 4 80 = true) (hl : (s.size : Int) ≤ many) : ctOf s many = s := by
  rw [ctOf, if_pos (by rw [h, h2]; rfl), if_pos hl]
theorem ctOf_cut {s : ByteArray} {m : Nat} (h : textB s = true) (h2 : inB (m : Int) 4 80 = true) (hl : m < s.size) : ctOf s m = s.extract 0 (ctAt s m) ++ dots := by
  rw [ctOf, if_pos (by rw [h, h2]; rfl), if_neg (by omega), Int.toNat_natCast]
theorem ctOf_size {s : ByteArray} {m : Nat} (h : textB s = true) (h2 : inB (m : Int) 4 80 = true) (h4 : 4 ≤ m) (hl : m < s.size) : (ctOf s m).size = ctAt s m + 2 := by
  have := ctAt_le s m
  rw [ctOf_cut h h2 hl, ByteArray.size_append, size_ext (by omega)]; rfl
theorem ctOf_bound (s : ByteArray) (many : Int) (hs : s.size ≤ 80 ∨ textB s = false ∨ True) : (ctOf s many).size ≤ 80 := by
  unfold ctOf
  split
  · next h =>
    have h' : textB s = true ∧ inB many 4 80 = true := by simpa using h
    have ht := Text.of h'.1
    have hm : 4 ≤ many ∧ many ≤ 80 := by have := h'.2; unfold inB at this; simpa using this
    split
    · exact ht.1
    · next hl =>
      have := ctAt_le s many.toNat
      rw [ByteArray.size_append, size_ext (by omega)]
      show _ + 2 ≤ 80
      omega
  · exact Nat.zero_le _
end Go.Proofs.Ytfnmlffpnmmcdaa
