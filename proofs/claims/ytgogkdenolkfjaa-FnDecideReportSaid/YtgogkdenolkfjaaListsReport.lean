import Derived.Test.YtgogkdenolkfjaaReport
namespace Go.Proofs.Ytgogkdenolkfjaa
open Go.RowKit
theorem copyOfReport_any (A : Option Addr) (cap B : Nat) (xs : List ElReport) (w : World) (h : RdE 3 encReport w B A xs) (hl : xs.length ≤ 1048576) :
    Calls Try.prog 41 #[.slice A xs.length cap] w fun e w' => ∃ T cap', e = .returned (.slice T xs.length cap') ∧ OwnE 3 encReport 34 w' w.heap.size T cap' xs ∧ Below w.heap.size w w' := by
  go_enter Try.func41, Try.ntmps41
  go_wp2_with (at_builtin; refine wpList_app rfl (.const (.slice none 0 0)) (.tmp 3) _ rfl w.heap.size 34 _ 3 32 Try.underlying25 info_Report rfl (by omega) none A 0 0 xs.length cap B (cE 3 encReport ([] : List ElReport)) (cE 3 encReport xs) rfl rfl (Own.nil _ _ _ _ _) h (fun _ _ => encReport_one _ _) (by simp only [maxLen]; omega) (by omega) (Nat.le_refl _) ?_; intro T1 cap1 w1 hown1 hg1)
  go_ret
  exact ⟨T1, cap1, by simp, OwnE.first hown1 rfl, grown_below hg1 (fun b hb => by cases hb) (Nat.le_refl _)⟩
end Go.Proofs.Ytgogkdenolkfjaa
