import Derived.Test.YthkdofflfaikgaaTimeB
import Derived.Test.YthkdofflfaikgaaOpenPost
namespace Go.Proofs.Ythkdofflfaikgaa
open Go.RowKit
set_option maxHeartbeats 400000 in
theorem FnExactTimelineValid_walk (A0 : Option Addr) (cap0 : Nat) (xs0 : List ElPost) (w : World) (h0 : RdE 2 encPost w w.heap.size A0 xs0) (hc0 : xs0.length ≤ cap0) (hm0 : cap0 ≤ maxLen) (wf0 : ∀ x ∈ xs0, okwPost x) :
    Calls Try.prog 3 #[.slice A0 xs0.length cap0] w fun e w' => e = .returned (.bool true) ∧ Below w.heap.size w w' := by
  unfold maxLen at hm0
  by_cases hz0 : (xs0.length : Int) ≤ 1048576
  · have y0 : szL (1048576) xs0.length = 1048576 - xs0.length := szL_yes hz0
    have d0 : decide (1048576 - (xs0.length : Int) < 0) = false := by simp; omega
    have hbs := bne_self (tvB xs0)
    have self0 := sameB_self xs0
    go_enter Try.func3, Try.ntmps3
    go_wp2_with fail
    refine (szPostS_any A0 xs0.length cap0 _ _ (by omega) (by omega) (by omega)).mono ?_
    rintro e w' ⟨rfl, rfl⟩
    go_wp2_with fail
    refine (toPostS_any _ _ _ xs0 _ h0 (by omega) (by omega)).mono ?_
    rintro e w1 ⟨T1, rfl, o1, b1⟩
    have z_w1 : w.heap.size ≤ w1.heap.size := b1.size
    have c_w1 : Below w.heap.size w w1 := b1.mono (by omega)
    have h0_w1 : RdE 2 encPost w1 w.heap.size A0 xs0 := h0.below (b1.mono (by omega))
    go_wp2_with fail
    refine (specTimelineValid_any _ _ w1.heap.size xs0  _ (RdE.more (OwnE.rd o1) (by omega)) (by omega) (by omega) ).mono ?_
    rintro e w2 ⟨rfl, b2⟩
    have z_w2 : w1.heap.size ≤ w2.heap.size := b2.size
    have c_w2 : Below w.heap.size w w2 := c_w1.trans (b2.mono (by omega))
    have h0_w2 : RdE 2 encPost w2 w.heap.size A0 xs0 := h0_w1.below (b2.mono (by omega))
    have r1_w2 : RdE 2 encPost w2 w1.heap.size T1 xs0 := (OwnE.rd o1).below (b2.mono (by omega))
    go_wp2_with fail
    refine (toPostS_any _ _ _ xs0 _ h0_w2 (by omega) (by omega)).mono ?_
    rintro e w3 ⟨T3, rfl, o3, b3⟩
    have z_w3 : w2.heap.size ≤ w3.heap.size := b3.size
    have c_w3 : Below w.heap.size w w3 := c_w2.trans (b3.mono (by omega))
    have h0_w3 : RdE 2 encPost w3 w.heap.size A0 xs0 := h0_w2.below (b3.mono (by omega))
    go_wp2_with fail
    refine (implTimelineValid_any _ _ w3.heap.size xs0  _ (RdE.more (OwnE.rd o3) (by omega)) (by omega) (by omega) ).mono ?_
    rintro e w4 ⟨rfl, b4⟩
    have z_w4 : w3.heap.size ≤ w4.heap.size := b4.size
    have c_w4 : Below w.heap.size w w4 := c_w3.trans (b4.mono (by omega))
    have h0_w4 : RdE 2 encPost w4 w.heap.size A0 xs0 := h0_w3.below (b4.mono (by omega))
    have r3_w4 : RdE 2 encPost w4 w3.heap.size T3 xs0 := (OwnE.rd o3).below (b4.mono (by omega))
    go_wp2_with fail
    refine (toPostS_any _ _ _ xs0 _ h0_w4 (by omega) (by omega)).mono ?_
    rintro e w5 ⟨T5, rfl, o5, b5⟩
    have z_w5 : w4.heap.size ≤ w5.heap.size := b5.size
    have c_w5 : Below w.heap.size w w5 := c_w4.trans (b5.mono (by omega))
    have h0_w5 : RdE 2 encPost w5 w.heap.size A0 xs0 := h0_w4.below (b5.mono (by omega))
    have r3_w5 : RdE 2 encPost w5 w3.heap.size T3 xs0 := r3_w4.below (b5.mono (by omega))
    go_wp2_with fail
    refine (eqPostS_any _ _ _ _ _ _ _ _ (RdE.more r3_w5 (by omega : _ ≤ w5.heap.size)) (RdE.more (OwnE.rd o5) (by omega)) (by omega) (by omega) (by omega)).mono ?_
    rintro e w6 ⟨rfl, b6⟩
    have z_w6 : w5.heap.size ≤ w6.heap.size := b6.size
    have c_w6 : Below w.heap.size w w6 := c_w5.trans (b6.mono (by omega))
    have h0_w6 : RdE 2 encPost w6 w.heap.size A0 xs0 := h0_w5.below (b6.mono (by omega))
    have r3_w6 : RdE 2 encPost w6 w3.heap.size T3 xs0 := r3_w5.below (b6.mono (by omega))
    have r5_w6 : RdE 2 encPost w6 w5.heap.size T5 xs0 := (OwnE.rd o5).below (b6.mono (by omega))
    go_wp2_with fail
    go_ret
    exact ⟨rfl, c_w6⟩
  · have y0 : szL (1048576) xs0.length = -1 := szL_no (by omega)
    go_enter Try.func3, Try.ntmps3
    go_wp2_with fail
    refine (szPostS_any A0 xs0.length cap0 _ _ (by omega) (by omega) (by omega)).mono ?_
    rintro e w' ⟨rfl, rfl⟩
    go_wp2_with fail
    go_ret
    exact ⟨rfl, Below.refl _ _⟩
end Go.Proofs.Ythkdofflfaikgaa
