/- Plain laws of reports, the second part: what the walks ask for. -/
import Derived.Test.YtgogkdenolkfjaaReportPlain
namespace Go.Proofs.Ytgogkdenolkfjaa
theorem Own.capLe {w : World} {base e sz n cap : Nat} {A : Option Addr} {f : Nat → Value} (h : Own w base e sz A n cap f) : n ≤ cap := by
  rcases h.shape with ⟨_, h1, h2⟩ | ⟨_, _, _, _, h1, _⟩ <;> omega
theorem isR_true {r : ElReport} {what : ByteArray} : isR what r = true ↔ r.1 = what := by unfold isR; exact seq_true
theorem isR_false {r : ElReport} {what : ByteArray} : isR what r = false ↔ r.1 ≠ what := by unfold isR; exact seq_false
theorem addR_len1 {rs : List ElReport} {what : ByteArray} (h : reportIx rs what = -1) : (addR rs what).length = rs.length + 1 := by rw [addR_new h]; simp
theorem addR_len0 {rs : List ElReport} {what : ByteArray} {k : Nat} (h : reportIx rs what = k) : (addR rs what).length = rs.length := by rw [addR_old h]; simp
theorem set_sz {rs : List ElReport} (h : ∀ k, k < rs.length → (gt rs k).1.size ≤ maxLen) {i : Nat} {y : ElReport} (hi : i < rs.length) (hy : y.1 = (gt rs i).1) : ∀ k, k < (rs.set i y).length → (gt (rs.set i y) k).1.size ≤ maxLen := fun k hk => by
  rw [gt_set hi]
  rw [List.length_set] at hk
  split
  · rw [hy]; exact h i hi
  · exact h k hk
theorem add_sz {rs : List ElReport} (h : ∀ k, k < rs.length → (gt rs k).1.size ≤ maxLen) {y : ElReport} (hy : y.1.size ≤ maxLen) : ∀ k, k < (rs ++ [y]).length → (gt (rs ++ [y]) k).1.size ≤ maxLen := fun k hk => by
  rw [gt_append]
  split
  · exact h k (by assumption)
  · rw [List.length_append, List.length_singleton] at hk
    rw [show k - rs.length = 0 by omega]; exact hy
theorem ix_none_all {rs : List ElReport} {what : ByteArray} (h : reportIx rs what = -1) {k : Nat} (hk : k < rs.length) : isR what (gt rs k) = false := by
  rcases ix_cases (p := isR what) (xs := rs) with ⟨_, h2⟩ | ⟨i, _, hi, _⟩
  · exact h2 k hk
  · unfold reportIx at h; omega
theorem ix_is {rs : List ElReport} {what : ByteArray} {k : Nat} (h : reportIx rs what = k) : k < rs.length ∧ isR what (gt rs k) = true := by
  rcases ix_cases (p := isR what) (xs := rs) with ⟨h1, _⟩ | ⟨i, hi, h1, h2, _⟩
  · unfold reportIx at h; omega
  · unfold reportIx at h
    obtain rfl : i = k := by omega
    exact ⟨hi, h2⟩
theorem ix_two {rs : List ElReport} {what : ByteArray} : reportIx rs what = -1 ∨ ∃ k, k < rs.length ∧ reportIx rs what = (k : Nat) := by
  rcases ix_cases (p := isR what) (xs := rs) with ⟨h1, _⟩ | ⟨i, hi, h1, _⟩
  · exact .inl h1
  · exact .inr ⟨i, hi, h1⟩
theorem ix_other {rs : List ElReport} {what : ByteArray} (hv : rvB rs = true) {k j : Nat} (h : reportIx rs what = k) (hj : j < rs.length) (hne : j ≠ k) : isR what (gt rs j) = false := by
  obtain ⟨hk, he⟩ := ix_is h
  refine isR_false.2 fun e => hne (rv_dis hv hj hk ?_)
  rw [e, isR_true.1 he]
/-- As far as j, with one more of the k-th. -/
def addAt (rs : List ElReport) (k j : Nat) : List ElReport := if k < j then rs.set k (more1 (gt rs k)) else rs
theorem addAt_lo {rs : List ElReport} {k j : Nat} (h : j ≤ k) : addAt rs k j = rs := if_neg (by omega)
theorem addAt_hi {rs : List ElReport} {k j : Nat} (h : k < j) : addAt rs k j = rs.set k (more1 (gt rs k)) := if_pos h
theorem addAt_len (rs : List ElReport) (k j : Nat) : (addAt rs k j).length = rs.length := by unfold addAt; split <;> simp
theorem addAt_what {rs : List ElReport} {k j : Nat} (hk : k < rs.length) (i : Nat) : (gt (addAt rs k j) i).1 = (gt rs i).1 := by
  unfold addAt
  split
  · rw [gt_set hk]; split
    · next h => rw [h]; rfl
    · rfl
  · rfl
/-- The cells where one report's count has gone up. -/
theorem more_cells {rs : List ElReport} {k : Nat} (j : Nat) : (if j = k * 3 + 1 then Value.int .i64 ((gt rs k).2.1 + 1) else cE 3 encReport rs j) = if j / 3 = k then encReport (more1 (gt rs k)) (j % 3) else cE 3 encReport rs j := by
  by_cases h1 : j = k * 3 + 1
  · rw [if_pos h1, if_pos (by omega), show j % 3 = 1 by omega]; rfl
  · rw [if_neg h1]
    by_cases h2 : j / 3 = k
    · rw [if_pos h2]
      unfold cE
      rw [h2]
      rcases (by omega : j % 3 = 0 ∨ j % 3 = 2) with h3 | h3 <;> rw [h3] <;> rfl
    · rw [if_neg h2]
theorem done_cells {rs : List ElReport} {k : Nat} (j : Nat) : (if j = k * 3 + 2 then Value.bool true else cE 3 encReport rs j) = if j / 3 = k then encReport (done1 (gt rs k)) (j % 3) else cE 3 encReport rs j := by
  by_cases h1 : j = k * 3 + 2
  · rw [if_pos h1, if_pos (by omega), show j % 3 = 2 by omega]; rfl
  · rw [if_neg h1]
    by_cases h2 : j / 3 = k
    · rw [if_pos h2]
      unfold cE
      rw [h2]
      rcases (by omega : j % 3 = 0 ∨ j % 3 = 1) with h3 | h3 <;> rw [h3] <;> rfl
    · rw [if_neg h2]
/-- Deciding: which one. -/
theorem can_at {rs : List ElReport} {what : ByteArray} (hv : rvB rs = true) {j : Nat} (hj : j < rs.length) (h1 : isR what (gt rs j) = true) (h2 : (gt rs j).2.2 = false) : canIx rs what = j := by
  rcases ix_two (rs := rs) (what := what) with h | ⟨k, hk, h⟩
  · rw [ix_none_all h hj] at h1; cases h1
  · by_cases e : j = k
    · subst e; exact canIx_yes h h2
    · rw [ix_other hv h hj e] at h1; cases h1
theorem can_none {rs : List ElReport} {what : ByteArray} (h : ∀ j, j < rs.length → isR what (gt rs j) = true → (gt rs j).2.2 = true) : canIx rs what = -1 := by
  rcases ix_two (rs := rs) (what := what) with h1 | ⟨k, hk, h1⟩
  · exact canIx_no h1
  · exact canIx_done h1 (h k hk (ix_is h1).2)
theorem nextOf_best {rs : List ElReport} (h : rvB rs = true) {k : Nat} (hk : bestTo rs rs.length = k) : nextOf rs = (gt rs k).1 := by rw [nextOf_yes h, hk, wordAt_nat]
theorem nextOf_none {rs : List ElReport} (h : rvB rs = true) (hk : bestTo rs rs.length < 0) : nextOf rs = ByteArray.empty := by rw [nextOf_yes h, wordAt_neg hk]
end Go.Proofs.Ytgogkdenolkfjaa
