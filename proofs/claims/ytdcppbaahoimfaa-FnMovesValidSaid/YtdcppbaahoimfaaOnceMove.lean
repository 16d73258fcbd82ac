/- Moves come once: what the law of their validity asks for. -/
import Derived.Test.YtdcppbaahoimfaaMovePlain2
namespace Go.Proofs.Ytdcppbaahoimfaa
theorem drop_szMove {xs : List ElMove} (h : ∀ k, k < xs.length → (gt xs k).1.1.size ≤ maxLen ∧ (gt xs k).1.2.size ≤ maxLen ∧ (gt xs k).2.1.size ≤ maxLen ∧ (gt xs k).2.2.size ≤ maxLen) (i : Nat) : ∀ k, k < (xs.drop i).length → (gt (xs.drop i) k).1.1.size ≤ maxLen ∧ (gt (xs.drop i) k).1.2.size ≤ maxLen ∧ (gt (xs.drop i) k).2.1.size ≤ maxLen ∧ (gt (xs.drop i) k).2.2.size ≤ maxLen := fun k hk => by
  rw [gt_drop]; rw [List.length_drop] at hk; exact h _ (by omega)
theorem cons_szMove {xs : List ElMove} (h : ∀ k, k < xs.length → (gt xs k).1.1.size ≤ maxLen ∧ (gt xs k).1.2.size ≤ maxLen ∧ (gt xs k).2.1.size ≤ maxLen ∧ (gt xs k).2.2.size ≤ maxLen) (h0 : 0 < xs.length) : ∀ k, k < ([gt xs 0] ++ xs).length → (gt ([gt xs 0] ++ xs) k).1.1.size ≤ maxLen ∧ (gt ([gt xs 0] ++ xs) k).1.2.size ≤ maxLen ∧ (gt ([gt xs 0] ++ xs) k).2.1.size ≤ maxLen ∧ (gt ([gt xs 0] ++ xs) k).2.2.size ≤ maxLen := fun k hk => by
  cases k with
  | zero => exact h 0 h0
  | succ k => exact h k (by simpa using hk)
theorem next_drop {xs : List ElMove} (hv : mvB xs = true) (g : ElHandle) : nextH (xs.drop 1) g = g ∨ nextH (xs.drop 1) g = nextH xs g := by
  by_cases hin : ∃ k, k < (xs.drop 1).length ∧ (gt (xs.drop 1) k).1 = g
  · obtain ⟨k, hk, e⟩ := hin
    right
    rw [List.length_drop] at hk
    have hk1 : fi (isF g) (xs.drop 1) = k := fi_eq (by rw [List.length_drop]; omega) (fun j hj => isF_false.2 (fun ej => by
      rw [gt_drop] at e ej
      have := mv_one hv (by omega) (by omega) (ej.trans e.symm)
      omega)) (fun _ => isF_true.2 e)
    have hk2 : fi (isF g) xs = 1 + k := fi_eq (by omega) (fun j hj => isF_false.2 (fun ej => by
      rw [gt_drop] at e
      have := mv_one hv (by omega) (by omega) (ej.trans e.symm)
      omega)) (fun _ => isF_true.2 (by rw [gt_drop] at e; exact e))
    unfold nextH
    rw [hk1, hk2, if_pos (by rw [List.length_drop]; omega), if_pos (by omega), gt_drop]
  · left
    refine nextH_no ?_
    unfold fromIx
    rw [ix_none (fun j hj => isF_false.2 (fun e => hin ⟨j, hj, e⟩))]
    omega
theorem orb_drop {xs : List ElMove} (hv : mvB xs = true) (g : ElHandle) (i : Nat) : ∃ j, j ≤ i ∧ orb (xs.drop 1) g i = orb xs g j := by
  induction i with
  | zero => exact ⟨0, Nat.le_refl _, rfl⟩
  | succ i ih =>
    obtain ⟨j, hj, e⟩ := ih
    rw [orb_succ, e]
    rcases next_drop hv (orb xs g j) with h | h
    · exact ⟨j, by omega, h⟩
    · exact ⟨j + 1, by omega, by rw [h, orb_succ]⟩
theorem mvB_tail {xs : List ElMove} (h : mvB xs = true) : mvB (xs.drop 1) = true := by
  obtain ⟨h1, h2⟩ := Vd.of h
  refine vdB_true ⟨by rw [List.length_drop]; omega, fun k hk => ?_⟩
  rw [List.length_drop] at hk
  have hk1 := h2 (1 + k) (by omega)
  unfold OkM at hk1 ⊢
  rw [gt_drop]
  refine ⟨hk1.1, hk1.2.1, fun j hj => by rw [gt_drop]; exact hk1.2.2.1 (1 + j) (by omega), fun i hi => ?_⟩
  rw [List.length_drop] at hi
  obtain ⟨j, hj, e⟩ := orb_drop h (gt xs (1 + k)).2 i
  rw [e]
  exact hk1.2.2.2 j (by omega)
theorem mvB_twice' {xs : List ElMove} (h : 0 < xs.length) : mvB ([gt xs 0] ++ xs) = false :=
  vdB_bad (k := 1) (by simp; omega) (fun hk => hk.2.2.1 0 (by omega) rfl)
end Go.Proofs.Ytdcppbaahoimfaa
