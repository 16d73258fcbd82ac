/- Plain laws of timelines, the second part: a post put into its place. -/
import Derived.Test.YthkdofflfaikgaaTimePlain
namespace Go.Proofs.Ythkdofflfaikgaa
/-- How many stand before p at the beginning. -/
def posOf (ps : List ElPost) (p : ElPost) : Nat := (ps.takeWhile (fun q => befB q p)).length
theorem posOf_eq : ∀ (ps : List ElPost) (p : ElPost) (k : Nat), k ≤ ps.length → (∀ j, j < k → befB (gt ps j) p = true) → (k < ps.length → befB (gt ps k) p = false) → posOf ps p = k := by
  intro ps p
  induction ps with
  | nil => intro k h _ _; simp at h; subst h; rfl
  | cons q qs ih =>
    intro k hk h1 h2
    cases k with
    | zero =>
      have := h2 (by simp)
      rw [gt_head] at this
      simp [posOf, this]
    | succ k =>
      have h0 := h1 0 (by omega)
      rw [gt_head] at h0
      have := ih k (by simpa using hk) (fun j hj => by have := h1 (j + 1) (by omega); rwa [gt_cons] at this) (fun hlt => by have := h2 (by simpa using hlt); rwa [gt_cons] at this)
      unfold posOf at this ⊢
      rw [List.takeWhile_cons, if_pos h0, List.length_cons, this]
theorem posOf_le (ps : List ElPost) (p : ElPost) : posOf ps p ≤ ps.length := by unfold posOf; exact (List.takeWhile_prefix _).length_le
theorem posOf_before : ∀ (ps : List ElPost) (p : ElPost) (j : Nat), j < posOf ps p → befB (gt ps j) p = true := by
  intro ps p
  induction ps with
  | nil => intro j h; simp [posOf] at h
  | cons q qs ih =>
    intro j h
    unfold posOf at h
    rw [List.takeWhile_cons] at h
    by_cases h0 : befB q p = true
    · rw [if_pos h0, List.length_cons] at h
      cases j with
      | zero => rw [gt_head]; exact h0
      | succ j => rw [gt_cons]; exact ih j (by unfold posOf; omega)
    · rw [if_neg h0] at h; simp at h
theorem posOf_stop : ∀ (ps : List ElPost) (p : ElPost), posOf ps p < ps.length → befB (gt ps (posOf ps p)) p = false := by
  intro ps p
  induction ps with
  | nil => intro h; simp at h
  | cons q qs ih =>
    intro h
    unfold posOf at h ⊢
    rw [List.takeWhile_cons] at h ⊢
    by_cases h0 : befB q p = true
    · rw [if_pos h0] at h ⊢
      rw [List.length_cons, gt_cons]
      exact ih (by unfold posOf; simpa using h)
    · rw [if_neg h0]
      rw [List.length_nil, gt_head]
      simpa using h0
/-- With p in its place. -/
def insAt (ps : List ElPost) (p : ElPost) : List ElPost := ps.take (posOf ps p) ++ [p] ++ ps.drop (posOf ps p)
theorem insAt_len (ps : List ElPost) (p : ElPost) : (insAt ps p).length = ps.length + 1 := by
  have := posOf_le ps p
  simp only [insAt, List.length_append, List.length_take, List.length_drop, List.length_cons, List.length_nil]
  omega
def putOf (ps : List ElPost) (p : ElPost) : List ElPost := if tvB ps = true then (if tvB (insAt ps p) = true then insAt ps p else ps) else []
def putOk (ps : List ElPost) (p : ElPost) : Bool := tvB ps && tvB (insAt ps p)
theorem putOf_yes {ps : List ElPost} {p : ElPost} (h : tvB ps = true) (k : tvB (insAt ps p) = true) : putOf ps p = insAt ps p ∧ putOk ps p = true := ⟨by rw [putOf, if_pos h, if_pos k], by rw [putOk, h, k]; rfl⟩
theorem putOf_no {ps : List ElPost} {p : ElPost} (h : tvB ps = true) (k : tvB (insAt ps p) = false) : putOf ps p = ps ∧ putOk ps p = false := ⟨by rw [putOf, if_pos h, if_neg (by rw [k]; simp)], by rw [putOk, h, k]; rfl⟩
theorem putOf_bad {ps : List ElPost} {p : ElPost} (h : tvB ps = false) : putOf ps p = [] ∧ putOk ps p = false := ⟨by rw [putOf, if_neg (by rw [h]; simp)], by rw [putOk, h]; rfl⟩
theorem putOf_len (ps : List ElPost) (p : ElPost) : (putOf ps p).length ≤ 1048576 := by
  unfold putOf
  split
  · next h =>
    have := (Tv.of h).1
    split
    · rw [insAt_len]; omega
    · omega
  · simp
end Go.Proofs.Ythkdofflfaikgaa
