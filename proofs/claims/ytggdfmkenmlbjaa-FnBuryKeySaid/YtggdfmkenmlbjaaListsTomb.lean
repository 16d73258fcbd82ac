import Derived.Test.YtggdfmkenmlbjaaTomb
namespace Go.Proofs.Ytggdfmkenmlbjaa
open Go.RowKit
theorem copyOfTomb_any (A : Option Addr) (cap B : Nat) (xs : List ElTomb) (w : World) (h : RdE 2 encTomb w B A xs) (hl : xs.length ≤ 1048576) :
    Calls Try.prog 48 #[.slice A xs.length cap] w fun e w' => ∃ T cap', e = .returned (.slice T xs.length cap') ∧ OwnE 2 encTomb 35 w' w.heap.size T cap' xs ∧ Below w.heap.size w w' := by
  go_enter Try.func48, Try.ntmps48
  go_wp2_with (at_builtin; refine wpList_app rfl (.const (.slice none 0 0)) (.tmp 3) _ rfl w.heap.size 35 _ 2 24 Try.underlying25 info_Tomb rfl (by omega) none A 0 0 xs.length cap B (cE 2 encTomb ([] : List ElTomb)) (cE 2 encTomb xs) rfl rfl (Own.nil _ _ _ _ _) h (fun _ _ => encTomb_one _ _) (by simp only [maxLen]; omega) (by omega) (Nat.le_refl _) ?_; intro T1 cap1 w1 hown1 hg1)
  go_ret
  exact ⟨T1, cap1, by simp, OwnE.first hown1 rfl, grown_below hg1 (fun b hb => by cases hb) (Nat.le_refl _)⟩
end Go.Proofs.Ytggdfmkenmlbjaa
