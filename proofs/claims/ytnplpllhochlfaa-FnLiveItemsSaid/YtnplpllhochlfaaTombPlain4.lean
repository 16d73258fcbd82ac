/- Plain laws of tombs, the fourth part: what the statements say. -/
import Derived.Test.YtnplpllhochlfaaTombPlain3
namespace Go.Proofs.Ytnplpllhochlfaa
theorem buriedB_nil (key : ByteArray) (now : Int) : buriedB [] key now = false := buriedB_none (by rfl)
theorem buriedB_before {ts : List ElTomb} {key : ByteArray} {now : Int} (h : buriedB ts key (now + 1) = true) : buriedB ts key now = true := by
  cases hv : tmB ts
  · rw [buriedB_bad hv] at h; cases h
  · rcases tix_two (ts := ts) (key := key) with hix | ⟨k, hk, hix⟩
    · rw [buriedB_none hix] at h; cases h
    · rw [buriedB_at hv hix, decide_eq_true_eq] at h
      rw [buriedB_at hv hix, decide_eq_true_eq]; omega
/-- The new one is the only one of its key, and the last. -/
theorem newT_ix {ts : List ElTomb} {key : ByteArray} {when : Int} (h : canB ts key when = true) : ∃ k : Nat, k < (newT ts key when).length ∧ tombIx (newT ts key when) key = k ∧ (gt (newT ts key when) k).2 = when := by
  have hv := newT_ok h
  obtain ⟨k, hk, he⟩ := mem_gt (newT_mem (ts := ts) (key := key) (when := when))
  rcases tix_two (ts := newT ts key when) (key := key) with hix | ⟨j, hj, hix⟩
  · have := tix_none hix hk
    rw [he] at this
    unfold isT at this; rw [seq_self] at this; cases this
  · have h1 := (tix_is hix).2
    have := tm_dis hv hj hk (by rw [he]; exact seq_true.1 h1)
    subst this
    exact ⟨j, hj, hix, by rw [he]⟩
theorem bury_facts {ts : List ElTomb} {key : ByteArray} {when : Int} (h : canB ts key when = true) :
    tmB (newT ts key when) = true ∧ buriedB (newT ts key when) key when = true ∧ buriedB (newT ts key when) key (when + 100) = true ∧ buriedB (newT ts key when) key (when + 100 + 1) = false := by
  have hv := newT_ok h
  obtain ⟨k, hk, hix, hw⟩ := newT_ix h
  refine ⟨hv, ?_, ?_, ?_⟩
  · rw [buriedB_at hv hix, hw, decide_eq_true_eq]; omega
  · rw [buriedB_at hv hix, hw, decide_eq_true_eq]; omega
  · rw [buriedB_at hv hix, hw, decide_eq_false_iff_not]; omega
theorem newT_ne {ts : List ElTomb} {key : ByteArray} {when : Int} : 0 < (newT ts key when).length := List.length_pos_of_mem newT_mem
theorem newT_form {ts : List ElTomb} {key : ByteArray} {when : Int} (hv : tmB ts = true) : ∃ L, newT ts key when = L ++ [(key, when)] ∧ L.length ≤ 7 ∧ ∀ t ∈ L, t.1 ≠ key := by
  by_cases h7 : (othTo ts key ts.length).length < 8
  · exact ⟨othTo ts key ts.length, newT_short h7, by omega, fun t ht => (oth_mem.1 ht).2⟩
  · refine ⟨(othTo ts key ts.length).drop 1, ?_, ?_, fun t ht => (oth_mem.1 (List.mem_of_mem_drop ht)).2⟩
    · rw [newT_long (by omega), List.drop_append_of_le_length (by omega)]
    · have := oth_len ts key
      have := tm_len hv
      rw [List.length_drop]; omega
/-- Buried again at the same time: the same. -/
theorem bury_again {ts : List ElTomb} {key : ByteArray} {when : Int} (h : canB ts key when = true) : buryOf (newT ts key when) key when = newT ts key when := by
  obtain ⟨hv, hw, hi, hl⟩ := (canB_iff _ _ _).1 h
  have hv2 := newT_ok h
  obtain ⟨L, hL, hL7, hLk⟩ := newT_form (key := key) (when := when) hv
  have hlast : gt (newT ts key when) ((newT ts key when).length - 1) = (key, when) := by
    rw [hL, List.length_append, List.length_singleton, Nat.add_sub_cancel]; exact gt_last _ _
  have hc : canB (newT ts key when) key when = true := (canB_iff _ _ _).2 ⟨hv2, hw, hi, .inr (by rw [hlast]; exact Int.le_refl _)⟩
  rw [buryOf_yes hc]
  have ho : othTo (newT ts key when) key (newT ts key when).length = L := by
    unfold othTo
    rw [List.take_length, hL, List.filter_append]
    have h1 : L.filter (fun t => !seq t.1 key) = L := List.filter_eq_self.2 fun t ht => by rw [seq_false.2 (hLk t ht)]; rfl
    rw [h1]
    simp [seq_self]
  rw [newT_short (by rw [ho]; omega), ho, ← hL]
end Go.Proofs.Ytnplpllhochlfaa
