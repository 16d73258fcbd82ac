import Derived.Test.YtdcppbaahoimfaaMoveC
import Derived.Test.YtdcppbaahoimfaaMoveD
import Derived.Test.YtdcppbaahoimfaaOpenMove
namespace Go.Proofs.Ytdcppbaahoimfaa
open Go.RowKit
set_option maxHeartbeats 400000 in
theorem FnExactMovesValid_walk (A0 : Option Addr) (cap0 : Nat) (xs0 : List ElMove) (w : World) (h0 : RdE 4 encMove w w.heap.size A0 xs0) (hc0 : xs0.length ≤ cap0) (hm0 : cap0 ≤ maxLen) (_wf0 : ∀ x ∈ xs0, okwMove x) :
    Calls Try.prog 4 #[.slice A0 xs0.length cap0] w fun e w' => e = .returned (.bool true) ∧ Below w.heap.size w w' := by
  unfold maxLen at hm0
  have hsz0 : ∀ k, k < xs0.length → (gt xs0 k).1.1.size ≤ maxLen ∧ (gt xs0 k).1.2.size ≤ maxLen ∧ (gt xs0 k).2.1.size ≤ maxLen ∧ (gt xs0 k).2.2.size ≤ maxLen := fun k hk => okwszMove (_wf0 _ (gt_mem hk))
  have HSZ0 := Lib.hid hsz0
  clear hsz0
  by_cases hz0 : (totMove xs0 : Int) ≤ 1048576
  · have y0 : szL (1048576) (totMove xs0) = 1048576 - (totMove xs0 : Int) := szL_yes hz0
    have yl0 : xs0.length ≤ totMove xs0 := by unfold totMove; omega
    have d0 : decide (1048576 - (totMove xs0 : Int) < 0) = false := decide_eq_false (by omega)
    have hbs := bne_self (mvB xs0)
    have self0 := sameB_self xs0
    go_enter Try.func4, Try.ntmps4
    go_wp2_with fail
    refine (szMoveS_any A0 cap0 w.heap.size xs0 _ _ h0 (Nat.le_refl _) (by omega) HSZ0.out (by omega) (by omega)).mono ?_
    rintro e v0 ⟨rfl, bz0⟩
    have z_v0 : w.heap.size ≤ v0.heap.size := bz0.size
    have c_v0 : Below w.heap.size w v0 := bz0.mono (by omega)
    have h0_v0 : RdE 4 encMove v0 w.heap.size A0 xs0 := h0.below (bz0.mono (by omega))
    go_wp2_with fail
    refine (toMoveS_any _ _ _ xs0 _ h0_v0 (by omega) (by omega)).mono ?_
    rintro e w1 ⟨T1, rfl, o1, b1⟩
    have z_w1 : v0.heap.size ≤ w1.heap.size := b1.size
    have c_w1 : Below w.heap.size w w1 := c_v0.trans (b1.mono (by omega))
    have h0_w1 : RdE 4 encMove w1 w.heap.size A0 xs0 := h0_v0.below (b1.mono (by omega))
    go_wp2_with fail
    refine (specMovesValid_any _ _ w1.heap.size xs0  _ (RdE.more (OwnE.rd o1) (by omega)) (by omega) (by omega) HSZ0.out).mono ?_
    rintro e w2 ⟨rfl, b2⟩
    have z_w2 : w1.heap.size ≤ w2.heap.size := b2.size
    have c_w2 : Below w.heap.size w w2 := c_w1.trans (b2.mono (by omega))
    have h0_w2 : RdE 4 encMove w2 w.heap.size A0 xs0 := h0_w1.below (b2.mono (by omega))
    have r1_w2 : RdE 4 encMove w2 w1.heap.size T1 xs0 := (OwnE.rd o1).below (b2.mono (by omega))
    go_wp2_with fail
    refine (toMoveS_any _ _ _ xs0 _ h0_w2 (by omega) (by omega)).mono ?_
    rintro e w3 ⟨T3, rfl, o3, b3⟩
    have z_w3 : w2.heap.size ≤ w3.heap.size := b3.size
    have c_w3 : Below w.heap.size w w3 := c_w2.trans (b3.mono (by omega))
    have h0_w3 : RdE 4 encMove w3 w.heap.size A0 xs0 := h0_w2.below (b3.mono (by omega))
    go_wp2_with fail
    refine (implMovesValid_any _ _ w3.heap.size xs0  _ (RdE.more (OwnE.rd o3) (by omega)) (by omega) (by omega) (Nat.le_refl _) HSZ0.out).mono ?_
    rintro e w4 ⟨rfl, b4⟩
    have z_w4 : w3.heap.size ≤ w4.heap.size := b4.size
    have c_w4 : Below w.heap.size w w4 := c_w3.trans (b4.mono (by omega))
    have h0_w4 : RdE 4 encMove w4 w.heap.size A0 xs0 := h0_w3.below (b4.mono (by omega))
    have r3_w4 : RdE 4 encMove w4 w3.heap.size T3 xs0 := (OwnE.rd o3).below (b4.mono (by omega))
    go_wp2_with fail
    refine (toMoveS_any _ _ _ xs0 _ h0_w4 (by omega) (by omega)).mono ?_
    rintro e w5 ⟨T5, rfl, o5, b5⟩
    have z_w5 : w4.heap.size ≤ w5.heap.size := b5.size
    have c_w5 : Below w.heap.size w w5 := c_w4.trans (b5.mono (by omega))
    have h0_w5 : RdE 4 encMove w5 w.heap.size A0 xs0 := h0_w4.below (b5.mono (by omega))
    have r3_w5 : RdE 4 encMove w5 w3.heap.size T3 xs0 := r3_w4.below (b5.mono (by omega))
    go_wp2_with fail
    refine (eqMoveS_any _ _ _ _ _ _ _ _ (RdE.more r3_w5 (by omega : _ ≤ w5.heap.size)) (RdE.more (OwnE.rd o5) (by omega)) (by omega) (by omega) (by omega)).mono ?_
    rintro e w6 ⟨rfl, b6⟩
    have z_w6 : w5.heap.size ≤ w6.heap.size := b6.size
    have c_w6 : Below w.heap.size w w6 := c_w5.trans (b6.mono (by omega))
    have h0_w6 : RdE 4 encMove w6 w.heap.size A0 xs0 := h0_w5.below (b6.mono (by omega))
    have r3_w6 : RdE 4 encMove w6 w3.heap.size T3 xs0 := r3_w5.below (b6.mono (by omega))
    have r5_w6 : RdE 4 encMove w6 w5.heap.size T5 xs0 := (OwnE.rd o5).below (b6.mono (by omega))
    go_wp2_with fail
    go_ret
    exact ⟨rfl, c_w6⟩
  · have y0 : szL (1048576) (totMove xs0) = -1 := szL_no (by omega)
    go_enter Try.func4, Try.ntmps4
    go_wp2_with fail
    refine (szMoveS_any A0 cap0 w.heap.size xs0 _ _ (h0.below ((Below.refl w.heap.size w).mono (Nat.le_refl _))) (Below.refl w.heap.size w).size (by omega) HSZ0.out (by omega) (by omega)).mono ?_
    rintro e u0 ⟨rfl, bu0⟩
    have cu0 := (Below.refl w.heap.size w).trans (bu0.mono (Below.refl w.heap.size w).size)
    go_wp2_with fail
    go_ret
    exact ⟨rfl, cu0⟩
end Go.Proofs.Ytdcppbaahoimfaa
