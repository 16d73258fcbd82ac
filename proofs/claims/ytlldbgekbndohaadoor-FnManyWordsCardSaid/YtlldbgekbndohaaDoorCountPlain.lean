/- Plain laws of words: how many begin before a place. No program in sight. -/
import Derived.Test.YtlldbgekbndohaaDoorTextPlain
namespace Go.Proofs.YtlldbgekbndohaaDoor
/-- Does a word begin at k? -/
def wdB (s : ByteArray) (k : Nat) : Bool := decide (bb s k ≠ 32 ∧ (k = 0 ∨ bb s (k - 1) = 32))
/-- How many begin before k. -/
def wdTo (s : ByteArray) : Nat → Nat
  | 0 => 0
  | k + 1 => wdTo s k + (if wdB s k = true then 1 else 0)
theorem wdB_true {s : ByteArray} {k : Nat} (h : bb s k ≠ 32) (h1 : k = 0 ∨ bb s (k - 1) = 32) : wdB s k = true := decide_eq_true ⟨h, h1⟩
theorem wdB_sp {s : ByteArray} {k : Nat} (h : bb s k = 32) : wdB s k = false := decide_eq_false fun hh => hh.1 h
theorem wdB_in {s : ByteArray} {k : Nat} (h : k ≠ 0) (h1 : bb s (k - 1) ≠ 32) : wdB s k = false := decide_eq_false fun hh => by rcases hh.2 with h2 | h2; exact h h2; exact h1 h2
theorem wdTo_zero (s : ByteArray) : wdTo s 0 = 0 := rfl
theorem wdTo_yes {s : ByteArray} {k : Nat} (h : wdB s k = true) : wdTo s (k + 1) = wdTo s k + 1 := by rw [wdTo, if_pos h]
theorem wdTo_no {s : ByteArray} {k : Nat} (h : wdB s k = false) : wdTo s (k + 1) = wdTo s k := by rw [wdTo, if_neg (by rw [h]; simp)]; rfl
theorem wdTo_step (s : ByteArray) (k : Nat) : wdTo s k ≤ wdTo s (k + 1) := by rw [wdTo]; omega
theorem wdTo_mono {s : ByteArray} {k m : Nat} (h : k ≤ m) : wdTo s k ≤ wdTo s m := by
  induction m with
  | zero => obtain rfl : k = 0 := by omega
            exact Nat.le_refl _
  | succ m ih =>
    rcases Nat.lt_succ_iff_lt_or_eq.1 (Nat.lt_succ_of_le h) with h1 | rfl
    · exact Nat.le_trans (ih (by omega)) (wdTo_step s m)
    · exact Nat.le_refl _
theorem wdTo_le (s : ByteArray) (k : Nat) : wdTo s k ≤ k := by
  induction k with
  | zero => exact Nat.le_refl _
  | succ k ih => rw [wdTo]; split <;> omega
theorem wdTo_half' (s : ByteArray) (k : Nat) : 2 * wdTo s k ≤ k + (if k = 0 ∨ bb s (k - 1) = 32 then 0 else 1) := by
  induction k with
  | zero => simp [wdTo_zero]
  | succ k ih =>
    rw [Nat.add_sub_cancel]
    by_cases h : bb s k = 32
    · rw [wdTo_no (wdB_sp h), if_pos (.inr h)]
      split at ih <;> omega
    · rw [if_neg (by omega)]
      by_cases h1 : k = 0 ∨ bb s (k - 1) = 32
      · rw [wdTo_yes (wdB_true h h1)]
        rw [if_pos h1] at ih
        omega
      · rw [wdTo_no (wdB_in (fun e => h1 (.inl e)) (fun e => h1 (.inr e)))]
        rw [if_neg h1] at ih
        omega
theorem wdTo_half (s : ByteArray) (k : Nat) : 2 * wdTo s k ≤ k + 1 := by have := wdTo_half' s k; split at this <;> omega
/-- ManyWords' answer. -/
def wordsOf (s : ByteArray) : Int := if textB s = true then (wdTo s s.size : Int) else -1
theorem wordsOf_yes {s : ByteArray} (h : textB s = true) : wordsOf s = (wdTo s s.size : Int) := if_pos h
theorem wordsOf_no {s : ByteArray} (h : textB s = false) : wordsOf s = -1 := if_neg (by rw [h]; simp)
theorem wdTo_congr {s t : ByteArray} {k : Nat} (h : ∀ j, j < k → bb t j = bb s j) : wdTo t k = wdTo s k := by
  induction k with
  | zero => rfl
  | succ k ih =>
    rw [wdTo, wdTo, ih (fun j hj => h j (by omega))]
    have e : wdB t k = wdB s k := by
      unfold wdB
      rw [h k (by omega)]
      rcases Nat.eq_zero_or_pos k with h0 | h0
      · subst h0; simp
      · rw [h (k - 1) (by omega)]
    rw [e]
/-- With a space and a word more. -/
theorem words_more {s : ByteArray} (h : textB s = true) (h2 : s.size + 2 ≤ 80) : textB (s ++ { data := #[32, 97] }) = true ∧ wdTo (s ++ { data := #[32, 97] }) (s ++ { data := #[32, 97] }).size = wdTo s s.size + 1 := by
  have hs : (s ++ ({ data := #[32, 97] } : ByteArray)).size = s.size + 2 := by rw [ByteArray.size_append]; rfl
  have b0 : bb (s ++ { data := #[32, 97] }) s.size = 32 := by have := bb_right s { data := #[32, 97] } 0; rw [Nat.add_zero] at this; rw [this]; rfl
  have b1 : bb (s ++ { data := #[32, 97] }) (s.size + 1) = 97 := by rw [bb_right]; rfl
  constructor
  · refine textB_true ⟨by rw [hs]; exact h2, fun j hj => ?_⟩
    rw [hs] at hj
    by_cases h3 : j < s.size
    · rw [bb_left h3]; exact (Text.of h).2 j h3
    · rcases (by omega : j = s.size ∨ j = s.size + 1) with rfl | rfl
      · rw [b0]; omega
      · rw [b1]; omega
  · rw [hs, wdTo_yes (k := s.size + 1) (wdB_true (by rw [b1]; omega) (.inr b0)), wdTo_no (wdB_sp b0), wdTo_congr (fun j hj => bb_left hj)]
/-! ### The words one after the other -/
/-- A word begins at f, and up to i there is no space. -/
def inWord (s : ByteArray) (f i : Nat) : Prop := f ≤ i ∧ (f < s.size → bb s f ≠ 32 ∧ (f = 0 ∨ bb s (f - 1) = 32)) ∧ ∀ j, f ≤ j → j < i → bb s j ≠ 32
theorem inWord_cnt {s : ByteArray} {f i : Nat} (h : inWord s f i) (hf : f < i) (hi : i ≤ s.size) : wdTo s i = wdTo s f + 1 := by
  induction i with
  | zero => omega
  | succ i ih =>
    obtain ⟨h1, h2, h3⟩ := h
    by_cases e : f = i
    · subst e
      have := h2 (by omega)
      exact wdTo_yes (wdB_true this.1 this.2)
    · rw [wdTo_no (wdB_in (by omega) (h3 (i - 1) (by omega) (by omega)))]
      exact ih ⟨by omega, h2, fun j hj hji => h3 j hj (by omega)⟩ (by omega) (by omega)
theorem inWord_lt {s : ByteArray} {f i : Nat} (h : inWord s f i) (hf : f < s.size) : wdTo s f < wdTo s s.size := by
  have h2 := h.2.1 hf
  have h3 := wdTo_yes (wdB_true h2.1 h2.2)
  have h4 := wdTo_mono (s := s) (show f + 1 ≤ s.size from hf)
  omega
theorem inWord_step {s : ByteArray} {f i : Nat} (h : inWord s f i) (hi : bb s i ≠ 32) : inWord s f (i + 1) :=
  ⟨by have := h.1; omega, h.2.1, fun j hj hji => by
    rcases Nat.lt_succ_iff_lt_or_eq.1 hji with h1 | rfl
    · exact h.2.2 j hj h1
    · exact hi⟩
/-- At i, behind spaces only since e. -/
def inGap (s : ByteArray) (e i : Nat) : Prop := e ≤ i ∧ ∀ j, e ≤ j → j < i → bb s j = 32
theorem inGap_step {s : ByteArray} {e i : Nat} (h : inGap s e i) (hi : bb s i = 32) : inGap s e (i + 1) :=
  ⟨by have := h.1; omega, fun j hj hji => by
    rcases Nat.lt_succ_iff_lt_or_eq.1 hji with h1 | rfl
    · exact h.2 j hj h1
    · exact hi⟩
theorem inGap_cnt {s : ByteArray} {e i : Nat} (h : inGap s e i) : wdTo s i = wdTo s e := by
  induction i with
  | zero => have := h.1
            obtain rfl : e = 0 := by omega
            rfl
  | succ i ih =>
    obtain ⟨h1, h2⟩ := h
    by_cases he : e = i + 1
    · subst he; rfl
    · rw [wdTo_no (wdB_sp (h2 i (by omega) (by omega)))]
      exact ih ⟨by omega, fun j hj hji => h2 j hj (by omega)⟩
/-- A gap's end is a word's beginning. -/
theorem inGap_word {s : ByteArray} {e i : Nat} (h : inGap s e i) (h0 : e = 0 ∨ e < i) (hi : i < s.size → bb s i ≠ 32) : inWord s i i :=
  ⟨Nat.le_refl _, fun hlt => ⟨hi hlt, by
    have h1 := h.1
    rcases Nat.eq_zero_or_pos i with hz | hz
    · exact .inl hz
    · exact .inr (h.2 (i - 1) (by omega) (by omega))⟩, fun j h1 h2 => by omega⟩
end Go.Proofs.YtlldbgekbndohaaDoor
