/- Keys come once: what the law of their validity asks for. -/
import Derived.Test.YtggdfmkenmlbjaaTombPlain3
namespace Go.Proofs.Ytggdfmkenmlbjaa
theorem drop_szTomb {xs : List ElTomb} (h : ∀ k, k < xs.length → (gt xs k).1.size ≤ maxLen) (i : Nat) : ∀ k, k < (xs.drop i).length → (gt (xs.drop i) k).1.size ≤ maxLen := fun k hk => by
  rw [gt_drop]; rw [List.length_drop] at hk; exact h _ (by omega)
theorem cons_szTomb {xs : List ElTomb} (h : ∀ k, k < xs.length → (gt xs k).1.size ≤ maxLen) (h0 : 0 < xs.length) : ∀ k, k < ([gt xs 0] ++ xs).length → (gt ([gt xs 0] ++ xs) k).1.size ≤ maxLen := fun k hk => by
  cases k with
  | zero => exact h 0 h0
  | succ k => exact h k (by simpa using hk)
theorem tmB_tail {xs : List ElTomb} (h : tmB xs = true) : tmB (xs.drop 1) = true := by
  obtain ⟨h1, h2⟩ := Vd.of h
  refine vdB_true ⟨by rw [List.length_drop]; omega, fun k hk => ?_⟩
  rw [List.length_drop] at hk
  have hk1 := h2 (1 + k) (by omega)
  unfold OkT at hk1 ⊢
  rw [gt_drop]
  exact ⟨hk1.1, hk1.2.1, fun h0 => by rw [gt_drop]; have := hk1.2.2.1 (by omega); rwa [show 1 + k - 1 = 1 + (k - 1) by omega] at this, fun j hj => by rw [gt_drop]; exact hk1.2.2.2 (1 + j) (by omega)⟩
theorem tmB_twice' {xs : List ElTomb} (h : 0 < xs.length) : tmB ([gt xs 0] ++ xs) = false :=
  vdB_bad (k := 1) (by simp; omega) (fun hk => hk.2.2.2 0 (by omega) rfl)
end Go.Proofs.Ytggdfmkenmlbjaa
