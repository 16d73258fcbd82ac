/- Plain laws of tombs, the second part: what the walks ask for. -/
import Derived.Test.YtnplpllhochlfaaTombPlain
namespace Go.Proofs.Ytnplpllhochlfaa
theorem Own.capLe {w : World} {base e sz n cap : Nat} {A : Option Addr} {f : Nat → Value} (h : Own w base e sz A n cap f) : n ≤ cap := by
  rcases h.shape with ⟨_, h1, h2⟩ | ⟨_, _, _, _, h1, _⟩ <;> omega
theorem tix_two {ts : List ElTomb} {key : ByteArray} : tombIx ts key = -1 ∨ ∃ k, k < ts.length ∧ tombIx ts key = (k : Nat) := by
  rcases ix_cases (p := isT key) (xs := ts) with ⟨h1, _⟩ | ⟨i, hi, h1, _⟩
  · exact .inl h1
  · exact .inr ⟨i, hi, h1⟩
theorem tix_none {ts : List ElTomb} {key : ByteArray} (h : tombIx ts key = -1) {k : Nat} (hk : k < ts.length) : isT key (gt ts k) = false := by
  rcases ix_cases (p := isT key) (xs := ts) with ⟨_, h2⟩ | ⟨i, _, hi, _⟩
  · exact h2 k hk
  · unfold tombIx at h; omega
theorem tix_is {ts : List ElTomb} {key : ByteArray} {k : Nat} (h : tombIx ts key = k) : k < ts.length ∧ isT key (gt ts k) = true := by
  rcases ix_cases (p := isT key) (xs := ts) with ⟨h1, _⟩ | ⟨i, hi, h1, h2, _⟩
  · unfold tombIx at h; omega
  · unfold tombIx at h
    obtain rfl : i = k := by omega
    exact ⟨hi, h2⟩
theorem oth_none {ts : List ElTomb} {key : ByteArray} (h : ∀ j, j < ts.length → isT key (gt ts j) = false) : othTo ts key ts.length = ts := by
  unfold othTo
  rw [List.take_length]
  refine List.filter_eq_self.2 fun t ht => ?_
  obtain ⟨k, hk, rfl⟩ := mem_gt ht
  have := h k hk
  unfold isT at this
  rw [this]; rfl
/-- With one of the key, and one alone: all but it. -/
theorem oth_some {ts : List ElTomb} {key : ByteArray} (hv : tmB ts = true) {k : Nat} (h : tombIx ts key = k) : othTo ts key ts.length = ts.take k ++ ts.drop (k + 1) := by
  obtain ⟨hk, he⟩ := tix_is h
  unfold othTo
  rw [List.take_length]
  have hd0 : ts.drop k = gt ts k :: ts.drop (k + 1) := by
    unfold gt; rw [List.getElem?_eq_getElem hk, Option.getD_some]; exact List.drop_eq_getElem_cons hk
  have hs : ts = ts.take k ++ (gt ts k :: ts.drop (k + 1)) := by rw [← hd0, List.take_append_drop]
  have hd : ∀ j, j < ts.length → j ≠ k → seq (gt ts j).1 key = false := fun j hj hne => seq_false.2 fun e => hne (tm_dis hv hj hk (by
    rw [e]; exact (seq_true.1 he).symm))
  conv => lhs; rw [hs]
  rw [List.filter_append, List.filter_cons]
  have he' : seq (gt ts k).1 key = true := he
  rw [if_neg (by rw [he']; simp)]
  congr 1
  · refine List.filter_eq_self.2 fun t ht => ?_
    obtain ⟨j, hj, rfl⟩ := mem_gt ht
    have hj' : j < k := by simp at hj; omega
    rw [gt_take hj', hd j (by omega) (by omega)]; rfl
  · refine List.filter_eq_self.2 fun t ht => ?_
    obtain ⟨j, hj, rfl⟩ := mem_gt ht
    have hj' : j < ts.length - (k + 1) := by simpa using hj
    rw [gt_drop, hd _ (by omega) (by omega)]; rfl
theorem oth_len (ts : List ElTomb) (key : ByteArray) : (othTo ts key ts.length).length ≤ ts.length := othTo_len ts key ts.length
end Go.Proofs.Ytnplpllhochlfaa
