/- Plain laws of tombs, the third part: burying. -/
import Derived.Test.YtnplpllhochlfaaTombPlain2
namespace Go.Proofs.Ytnplpllhochlfaa
theorem canB_iff (ts : List ElTomb) (key : ByteArray) (when : Int) : canB ts key when = true ↔ tmB ts = true ∧ wordB key = true ∧ inB when 0 1000000000 = true ∧ (ts.length = 0 ∨ (gt ts (ts.length - 1)).2 ≤ when) := by
  unfold canB
  rw [Bool.and_eq_true, Bool.and_eq_true, Bool.and_eq_true, Bool.or_eq_true, decide_eq_true_eq, decide_eq_true_eq]
theorem buryOf_yes {ts : List ElTomb} {key : ByteArray} {when : Int} (h : canB ts key when = true) : buryOf ts key when = newT ts key when := if_pos h
theorem buryOf_no {ts : List ElTomb} {key : ByteArray} {when : Int} (h : canB ts key when = false) : buryOf ts key when = [] := if_neg (by rw [h]; simp)
theorem canB_no {ts : List ElTomb} {key : ByteArray} {when : Int} (h : ¬ (tmB ts = true ∧ wordB key = true ∧ inB when 0 1000000000 = true ∧ (ts.length = 0 ∨ (gt ts (ts.length - 1)).2 ≤ when))) : canB ts key when = false := by
  cases hq : canB ts key when
  · rfl
  · exact absurd ((canB_iff _ _ _).1 hq) h
theorem oth_mem {ts : List ElTomb} {key : ByteArray} {t : ElTomb} : t ∈ othTo ts key ts.length ↔ t ∈ ts ∧ t.1 ≠ key := by
  unfold othTo
  rw [List.take_length, List.mem_filter, Bool.not_eq_true', seq_false]
/-- All of them and the new one, in order. -/
theorem full_ok {ts : List ElTomb} {key : ByteArray} {when : Int} (hv : tmB ts = true) (hw : wordB key = true) (hi : inB when 0 1000000000 = true) (hl : ts.length = 0 ∨ (gt ts (ts.length - 1)).2 ≤ when) :
    (∀ t ∈ othTo ts key ts.length ++ [(key, when)], wordB t.1 = true ∧ 0 ≤ t.2 ∧ t.2 ≤ 1000000000) ∧ (othTo ts key ts.length ++ [(key, when)]).Pairwise (fun a b => a.2 ≤ b.2 ∧ a.1 ≠ b.1) := by
  obtain ⟨h1, h2, h3⟩ := (tmB_iff ts).1 hv
  constructor
  · intro t ht
    rcases List.mem_append.1 ht with ht | ht
    · exact h2 t (oth_mem.1 ht).1
    · rw [List.mem_singleton] at ht; subst ht; exact ⟨hw, inB_iff.1 hi⟩
  · refine List.pairwise_append.2 ⟨?_, List.pairwise_singleton _ _, fun a ha b hb => ?_⟩
    · unfold othTo; rw [List.take_length]; exact List.Pairwise.filter _ h3
    · rw [List.mem_singleton] at hb; subst hb
      obtain ⟨h5, h6⟩ := oth_mem.1 ha
      obtain ⟨k, hk, rfl⟩ := mem_gt h5
      refine ⟨?_, h6⟩
      rcases hl with hl | hl
      · omega
      · exact Int.le_trans (tm_mono hv (by omega) (by omega)) hl
theorem lastT_sub (ts : List ElTomb) : (lastT ts).Sublist ts := by
  unfold lastT; split
  · exact List.drop_sublist _ _
  · exact List.Sublist.refl _
theorem newT_len {ts : List ElTomb} {key : ByteArray} {when : Int} (hv : tmB ts = true) : (newT ts key when).length ≤ 8 := by
  have := tm_len hv
  have := oth_len ts key
  unfold newT lastT
  split
  · simp; omega
  · next h => simp at h ⊢; omega
theorem newT_mem {ts : List ElTomb} {key : ByteArray} {when : Int} : (key, when) ∈ newT ts key when := by
  unfold newT lastT
  split
  · next h =>
    rw [List.drop_append_of_le_length (by simp at h; omega)]; simp
  · simp
/-- Valid behind it. -/
theorem newT_ok {ts : List ElTomb} {key : ByteArray} {when : Int} (h : canB ts key when = true) : tmB (newT ts key when) = true := by
  obtain ⟨hv, hw, hi, hl⟩ := (canB_iff _ _ _).1 h
  obtain ⟨h1, h2⟩ := full_ok hv hw hi hl
  exact (tmB_iff _).2 ⟨newT_len hv, fun t ht => h1 t ((lastT_sub _).mem ht), List.Pairwise.sublist (lastT_sub _) h2⟩
theorem canB_of {ts : List ElTomb} {key : ByteArray} {when : Int} (hv : tmB ts = true) (h : tmB (newT ts key when) = true) (hl : ts.length = 0 ∨ (gt ts (ts.length - 1)).2 ≤ when) : canB ts key when = true := by
  have := ((tmB_iff _).1 h).2.1 _ newT_mem
  exact (canB_iff _ _ _).2 ⟨hv, this.1, inB_iff.2 this.2, hl⟩
theorem canB_late {ts : List ElTomb} {key : ByteArray} {when : Int} (h0 : 0 < ts.length) (hl : when < (gt ts (ts.length - 1)).2) : canB ts key when = false := canB_no (fun h => by
  rcases h.2.2.2 with h | h <;> omega)
theorem canB_bad {ts : List ElTomb} {key : ByteArray} {when : Int} (h : tmB (newT ts key when) = false) : canB ts key when = false := by
  cases hq : canB ts key when
  · rfl
  · rw [newT_ok hq] at h; cases h
theorem newT_short {ts : List ElTomb} {key : ByteArray} {when : Int} (h : (othTo ts key ts.length).length < 8) : newT ts key when = othTo ts key ts.length ++ [(key, when)] := by
  unfold newT lastT; rw [if_neg (by simp; omega)]
theorem newT_long {ts : List ElTomb} {key : ByteArray} {when : Int} (h : 8 ≤ (othTo ts key ts.length).length) : newT ts key when = (othTo ts key ts.length ++ [(key, when)]).drop 1 := by
  unfold newT lastT; rw [if_pos (by simp; omega)]
theorem oth_some_len {ts : List ElTomb} {key : ByteArray} (hv : tmB ts = true) {k : Nat} (h : tombIx ts key = k) : (othTo ts key ts.length).length + 1 = ts.length := by
  have := (tix_is h).1
  rw [oth_some hv h]
  simp; omega
theorem sz_oth {ts : List ElTomb} {key : ByteArray} {when : Int} (h : ∀ k, k < ts.length → (gt ts k).1.size ≤ maxLen) (hw : key.size ≤ maxLen) {L : List ElTomb} (hL : ∀ t ∈ L, t ∈ ts ∨ t = (key, when)) : ∀ k, k < L.length → (gt L k).1.size ≤ maxLen := fun k hk => by
  rcases hL _ (gt_mem hk) with h1 | h1
  · obtain ⟨j, hj, e⟩ := mem_gt h1
    rw [← e]; exact h j hj
  · rw [h1]; exact hw
theorem newT_sub {ts : List ElTomb} {key : ByteArray} {when : Int} : ∀ t ∈ newT ts key when, t ∈ ts ∨ t = (key, when) := fun t ht => by
  rcases List.mem_append.1 ((lastT_sub _).mem ht) with h | h
  · exact .inl (oth_mem.1 h).1
  · exact .inr (List.mem_singleton.1 h)
end Go.Proofs.Ytnplpllhochlfaa
