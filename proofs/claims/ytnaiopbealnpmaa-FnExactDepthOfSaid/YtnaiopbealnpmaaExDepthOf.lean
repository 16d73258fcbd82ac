import Derived.Test.YtnaiopbealnpmaaPostsB
namespace Go.Proofs.Ytnaiopbealnpmaa
open Go.RowKit PP
theorem FnExactDepthOf_walk (A : Option Addr) (cap : Nat) (xs : List Int) (a : Int) (w : World) (h : RdI w w.heap.size A xs) (_ : xs.length ≤ cap) (_ : cap ≤ maxLen) (_ : ∀ n ∈ xs, (Lit.int .i64 n).wf = true) (_ : (Lit.int .i64 a).wf = true) :
    Calls Try.prog 5 #[.slice A xs.length cap, .int .i64 a] w fun e w' => e = .returned (.bool true) ∧ Below w.heap.size w w' := by
  by_cases hs : xs.length ≤ 1048576
  · have hl : xs.length ≤ 140737488351232 := by omega
    have hd : decide (1048576 < (xs.length : Int)) = false := by simp; omega
    go_enter Try.func5, Try.ntmps5
    go_wp2_with fail
    refine (toIntS_new _ _ _ xs _ h (Nat.le_refl _) hs).mono ?_
    rintro e w1 ⟨A1, rfl, hr1, hb1⟩
    have k1 := h.below hb1
    go_wp2_with fail
    refine (specDepthOf_any _ _ _ xs a _ hr1 hl).mono ?_
    rintro e w' ⟨rfl, rfl⟩
    go_wp2_with fail
    refine (toIntS_new _ _ _ xs _ k1 hb1.size hs).mono ?_
    rintro e w2 ⟨A2, rfl, hr2, hb2⟩
    have k2 := k1.below (hb2.mono hb1.size)
    go_wp2_with fail
    refine (implDepthOf_any _ _ _ xs a _ hr2 hl).mono ?_
    rintro e w' ⟨rfl, rfl⟩
    go_wp2_with fail
    refine (toIntS_new _ _ _ xs _ k2 (Nat.le_trans hb1.size hb2.size) hs).mono ?_
    rintro e w3 ⟨A3, rfl, hr3, hb3⟩
    have r2 := (hr2.below hb3).more hb3.size
    have hself := eqB_self xs
    go_wp2_with fail
    refine (eqIntS_any _ _ _ _ _ xs xs _ r2 hr3 hl hl).mono ?_
    rintro e w4 ⟨rfl, n, rfl⟩
    go_wp2_with fail
    go_ret
    exact ⟨rfl, below_drewN ((hb1.trans (hb2.mono hb1.size)).trans (hb3.mono (Nat.le_trans hb1.size hb2.size))) n⟩
  · have hd : decide (1048576 < (xs.length : Int)) = true := by simp; omega
    go_enter Try.func5, Try.ntmps5
    go_wp2
    go_ret
    exact ⟨rfl, Below.refl _ _⟩
end Go.Proofs.Ytnaiopbealnpmaa
