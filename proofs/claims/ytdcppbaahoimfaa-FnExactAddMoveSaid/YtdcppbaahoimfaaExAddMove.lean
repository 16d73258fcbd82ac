import Derived.Test.YtdcppbaahoimfaaAddMoveA
import Derived.Test.YtdcppbaahoimfaaAddMoveB
import Derived.Test.YtdcppbaahoimfaaOpenMove
namespace Go.Proofs.Ytdcppbaahoimfaa
open Go.RowKit
set_option maxHeartbeats 400000 in
theorem FnExactAddMove_walk (A0 : Option Addr) (cap0 : Nat) (xs0 : List ElMove) (x1 : ElMove) (w : World) (h0 : RdE 4 encMove w w.heap.size A0 xs0) (hc0 : xs0.length ≤ cap0) (hm0 : cap0 ≤ maxLen) (_wf0 : ∀ x ∈ xs0, okwMove x) (_wf1 : okwMove x1) :
    Calls Try.prog 8 #[.slice A0 xs0.length cap0, .agg #[encMove x1 0, encMove x1 1, encMove x1 2, encMove x1 3]] w fun e w' => e = .returned (.bool true) ∧ Below w.heap.size w w' := by
  unfold maxLen at hm0
  have hsz0 : ∀ k, k < xs0.length → (gt xs0 k).1.1.size ≤ maxLen ∧ (gt xs0 k).1.2.size ≤ maxLen ∧ (gt xs0 k).2.1.size ≤ maxLen ∧ (gt xs0 k).2.2.size ≤ maxLen := fun k hk => okwszMove (_wf0 _ (gt_mem hk))
  have HSZ0 := Lib.hid hsz0
  clear hsz0
  by_cases hz0 : (totMove xs0 : Int) ≤ 1048576
  · have y0 : szL (1048576) (totMove xs0) = 1048576 - (totMove xs0 : Int) := szL_yes hz0
    have yl0 : xs0.length ≤ totMove xs0 := by unfold totMove; omega
    have d0 : decide (1048576 - (totMove xs0 : Int) < 0) = false := decide_eq_false (by omega)
    by_cases hz1 : (byMove x1 : Int) ≤ 1048576 - (totMove xs0 : Int)
    · have y1 : szL (1048576 - (totMove xs0 : Int)) (byMove x1) = 1048576 - (totMove xs0 : Int) - (byMove x1 : Int) := szL_yes hz1
      have d1 : decide (1048576 - (totMove xs0 : Int) - (byMove x1 : Int) < 0) = false := decide_eq_false (by omega)
      have hR := addMOf_len xs0 x1
      have hselfR := sameB_self (addMOf xs0 x1)
      have hbs := bne_self (addMOk xs0 x1)
      have self0 := sameB_self xs0
      have hbA : Below w.heap.size w (w.alloc (.cells #[encMove x1 0, encMove x1 1, encMove x1 2, encMove x1 3] 51)) := (Below.refl _ _).alloc (Nat.le_refl _) _
      have q1_0 : (w.alloc (.cells #[encMove x1 0, encMove x1 1, encMove x1 2, encMove x1 3] 51)).cell? ⟨w.heap.size, 0, none⟩ = some (encMove x1 0) := by rw [World.cell?_alloc_at _ _ _ _ rfl]; rfl
      have q1_1 : (w.alloc (.cells #[encMove x1 0, encMove x1 1, encMove x1 2, encMove x1 3] 51)).cell? ⟨w.heap.size, 1, none⟩ = some (encMove x1 1) := by rw [World.cell?_alloc_at _ _ _ _ rfl]; rfl
      have q1_2 : (w.alloc (.cells #[encMove x1 0, encMove x1 1, encMove x1 2, encMove x1 3] 51)).cell? ⟨w.heap.size, 2, none⟩ = some (encMove x1 2) := by rw [World.cell?_alloc_at _ _ _ _ rfl]; rfl
      have q1_3 : (w.alloc (.cells #[encMove x1 0, encMove x1 1, encMove x1 2, encMove x1 3] 51)).cell? ⟨w.heap.size, 3, none⟩ = some (encMove x1 3) := by rw [World.cell?_alloc_at _ _ _ _ rfl]; rfl
      have hzA : (w.alloc (.cells #[encMove x1 0, encMove x1 1, encMove x1 2, encMove x1 3] 51)).heap.size = w.heap.size + 1 := by simp
      have hA0 : RdE 4 encMove (w.alloc (.cells #[encMove x1 0, encMove x1 1, encMove x1 2, encMove x1 3] 51)) w.heap.size A0 xs0 := h0.below hbA
      go_enter Try.func8, Try.ntmps8
      go_wp2_with fail
      generalize (w.alloc (.cells #[encMove x1 0, encMove x1 1, encMove x1 2, encMove x1 3] 51)) = wA at *
      go_wp2_with fail
      refine (szMoveS_any A0 cap0 w.heap.size xs0 _ _ hA0 (hbA.size) (by omega) HSZ0.out (by omega) (by omega)).mono ?_
      rintro e v0 ⟨rfl, bz0⟩
      have z_v0 : wA.heap.size ≤ v0.heap.size := bz0.size
      have c_v0 : Below w.heap.size w v0 := hbA.trans (bz0.mono (by omega))
      have q1_0_v0 : v0.cell? ⟨w.heap.size, 0, none⟩ = some (encMove x1 0) := (bz0.cell (by show w.heap.size < _; omega)).trans q1_0
      have q1_1_v0 : v0.cell? ⟨w.heap.size, 1, none⟩ = some (encMove x1 1) := (bz0.cell (by show w.heap.size < _; omega)).trans q1_1
      have q1_2_v0 : v0.cell? ⟨w.heap.size, 2, none⟩ = some (encMove x1 2) := (bz0.cell (by show w.heap.size < _; omega)).trans q1_2
      have q1_3_v0 : v0.cell? ⟨w.heap.size, 3, none⟩ = some (encMove x1 3) := (bz0.cell (by show w.heap.size < _; omega)).trans q1_3
      have h0_v0 : RdE 4 encMove v0 w.heap.size A0 xs0 := hA0.below (bz0.mono (by omega))
      go_wp2_with fail
      have hsv1 := szMove_any x1.1.1 x1.1.2 x1.2.1 x1.2.2 (1048576 - (totMove xs0 : Int)) v0 (by omega) (by omega) (okwVMove_0 _wf1) (okwVMove_1 _wf1) (okwVMove_2 _wf1) (okwVMove_3 _wf1)
      rw [show x1.1.1.size + x1.1.2.size + x1.2.1.size + x1.2.2.size = byMove x1 from rfl, y1] at hsv1
      have HSV1 := Lib.hid hsv1
      clear hsv1
      refine HSV1.out.mono ?_
      rintro e v1 ⟨rfl, bz1⟩
      have z_v1 : v0.heap.size ≤ v1.heap.size := bz1.size
      have c_v1 : Below w.heap.size w v1 := c_v0.trans (bz1.mono (by omega))
      have q1_0_v1 : v1.cell? ⟨w.heap.size, 0, none⟩ = some (encMove x1 0) := (bz1.cell (by show w.heap.size < _; omega)).trans q1_0_v0
      have q1_1_v1 : v1.cell? ⟨w.heap.size, 1, none⟩ = some (encMove x1 1) := (bz1.cell (by show w.heap.size < _; omega)).trans q1_1_v0
      have q1_2_v1 : v1.cell? ⟨w.heap.size, 2, none⟩ = some (encMove x1 2) := (bz1.cell (by show w.heap.size < _; omega)).trans q1_2_v0
      have q1_3_v1 : v1.cell? ⟨w.heap.size, 3, none⟩ = some (encMove x1 3) := (bz1.cell (by show w.heap.size < _; omega)).trans q1_3_v0
      have h0_v1 : RdE 4 encMove v1 w.heap.size A0 xs0 := h0_v0.below (bz1.mono (by omega))
      go_wp2_with fail
      have zd1 : (v1.drew).heap.size = v1.heap.size := rfl
      have c_d1 : Below w.heap.size w (v1.drew) := c_v1.drew
      have h0_d1 : RdE 4 encMove (v1.drew) w.heap.size A0 xs0 := h0_v1
      have q1_0_d1 : (v1.drew).cell? ⟨w.heap.size, 0, none⟩ = some (encMove x1 0) := q1_0_v1
      have q1_1_d1 : (v1.drew).cell? ⟨w.heap.size, 1, none⟩ = some (encMove x1 1) := q1_1_v1
      have q1_2_d1 : (v1.drew).cell? ⟨w.heap.size, 2, none⟩ = some (encMove x1 2) := q1_2_v1
      have q1_3_d1 : (v1.drew).cell? ⟨w.heap.size, 3, none⟩ = some (encMove x1 3) := q1_3_v1
      go_region_held3 (fun w' => w'.cell? ⟨w.heap.size, 0, none⟩ = some (encMove x1 0) ∧ w'.cell? ⟨w.heap.size, 1, none⟩ = some (encMove x1 1) ∧ w'.cell? ⟨w.heap.size, 2, none⟩ = some (encMove x1 2) ∧ w'.cell? ⟨w.heap.size, 3, none⟩ = some (encMove x1 3)) (first | exact ⟨q1_0_d1, q1_1_d1, q1_2_d1, q1_3_d1⟩ | exact ⟨q1_0_w2, q1_1_w2, q1_2_w2, q1_3_w2⟩ | exact ⟨q1_0_w3, q1_1_w3, q1_2_w3, q1_3_w3⟩ | exact ⟨q1_0_w4, q1_1_w4, q1_2_w4, q1_3_w4⟩ | go_keep) (first
        | (go_at_call 16; refine (toMoveS_any _ _ _ xs0 _ h0_d1 (by omega) (by omega)).mono ?_; rintro e w2 ⟨T1, rfl, o1, b1⟩; have z_w2 : (v1.drew).heap.size ≤ w2.heap.size := b1.size; have c_w2 : Below w.heap.size w w2 := c_d1.trans (b1.mono (by omega)); have q1_0_w2 : w2.cell? ⟨w.heap.size, 0, none⟩ = some (encMove x1 0) := (b1.cell (by show w.heap.size < _; omega)).trans q1_0_d1; have q1_1_w2 : w2.cell? ⟨w.heap.size, 1, none⟩ = some (encMove x1 1) := (b1.cell (by show w.heap.size < _; omega)).trans q1_1_d1; have q1_2_w2 : w2.cell? ⟨w.heap.size, 2, none⟩ = some (encMove x1 2) := (b1.cell (by show w.heap.size < _; omega)).trans q1_2_d1; have q1_3_w2 : w2.cell? ⟨w.heap.size, 3, none⟩ = some (encMove x1 3) := (b1.cell (by show w.heap.size < _; omega)).trans q1_3_d1; have h0_w2 : RdE 4 encMove w2 w.heap.size A0 xs0 := h0_d1.below (b1.mono (by omega)))
        | (go_at_call 30; refine (toMove_any x1.1.1 x1.1.2 x1.2.1 x1.2.2 _).mono ?_; rintro e w3 ⟨rfl, b2⟩; have z_w3 : w2.heap.size ≤ w3.heap.size := b2.size; have c_w3 : Below w.heap.size w w3 := c_w2.trans (b2.mono (by omega)); have q1_0_w3 : w3.cell? ⟨w.heap.size, 0, none⟩ = some (encMove x1 0) := (b2.cell (by show w.heap.size < _; omega)).trans q1_0_w2; have q1_1_w3 : w3.cell? ⟨w.heap.size, 1, none⟩ = some (encMove x1 1) := (b2.cell (by show w.heap.size < _; omega)).trans q1_1_w2; have q1_2_w3 : w3.cell? ⟨w.heap.size, 2, none⟩ = some (encMove x1 2) := (b2.cell (by show w.heap.size < _; omega)).trans q1_2_w2; have q1_3_w3 : w3.cell? ⟨w.heap.size, 3, none⟩ = some (encMove x1 3) := (b2.cell (by show w.heap.size < _; omega)).trans q1_3_w2; have h0_w3 : RdE 4 encMove w3 w.heap.size A0 xs0 := h0_w2.below (b2.mono (by omega)); have r1_w3 : RdE 4 encMove w3 w2.heap.size T1 xs0 := (OwnE.rd o1).below (b2.mono (by omega)))
        | (go_at_call 27; refine (specAddMove_any _ _ w3.heap.size xs0 x1 _ (RdE.more r1_w3 (by omega)) (by omega) (by omega) HSZ0.out (okwszMove _wf1)).mono ?_; rintro e w4 ⟨R3, rc3, rfl, o3, b3⟩; have z_w4 : w3.heap.size ≤ w4.heap.size := b3.size; have c_w4 : Below w.heap.size w w4 := c_w3.trans (b3.mono (by omega)); have q1_0_w4 : w4.cell? ⟨w.heap.size, 0, none⟩ = some (encMove x1 0) := (b3.cell (by show w.heap.size < _; omega)).trans q1_0_w3; have q1_1_w4 : w4.cell? ⟨w.heap.size, 1, none⟩ = some (encMove x1 1) := (b3.cell (by show w.heap.size < _; omega)).trans q1_1_w3; have q1_2_w4 : w4.cell? ⟨w.heap.size, 2, none⟩ = some (encMove x1 2) := (b3.cell (by show w.heap.size < _; omega)).trans q1_2_w3; have q1_3_w4 : w4.cell? ⟨w.heap.size, 3, none⟩ = some (encMove x1 3) := (b3.cell (by show w.heap.size < _; omega)).trans q1_3_w3; have h0_w4 : RdE 4 encMove w4 w.heap.size A0 xs0 := h0_w3.below (b3.mono (by omega)); have r1_w4 : RdE 4 encMove w4 w2.heap.size T1 xs0 := r1_w3.below (b3.mono (by omega)); have lo3 : ∀ b, blk R3 = some b → w3.heap.size ≤ b := fun b hb => (Own.lt o3 hb).1; have hi3 : ∀ b, blk R3 = some b → b < w4.heap.size := fun b hb => (Own.lt o3 hb).2))
      go_wp2_with fail
      refine (toMoveS_any _ _ _ xs0 _ h0_w4 (by omega) (by omega)).mono ?_
      rintro e w5 ⟨T4, rfl, o4, b4⟩
      have o3_w5 : OwnE 4 encMove 30 w5 w3.heap.size R3 rc3 (addMOf xs0 x1) := Own.below o3 b4
      have z_w5 : w4.heap.size ≤ w5.heap.size := b4.size
      have c_w5 : Below w.heap.size w w5 := c_w4.trans (b4.mono (by omega))
      have q1_0_w5 : w5.cell? ⟨w.heap.size, 0, none⟩ = some (encMove x1 0) := (b4.cell (by show w.heap.size < _; omega)).trans q1_0_w4
      have q1_1_w5 : w5.cell? ⟨w.heap.size, 1, none⟩ = some (encMove x1 1) := (b4.cell (by show w.heap.size < _; omega)).trans q1_1_w4
      have q1_2_w5 : w5.cell? ⟨w.heap.size, 2, none⟩ = some (encMove x1 2) := (b4.cell (by show w.heap.size < _; omega)).trans q1_2_w4
      have q1_3_w5 : w5.cell? ⟨w.heap.size, 3, none⟩ = some (encMove x1 3) := (b4.cell (by show w.heap.size < _; omega)).trans q1_3_w4
      have h0_w5 : RdE 4 encMove w5 w.heap.size A0 xs0 := h0_w4.below (b4.mono (by omega))
      have lo4 : ∀ b, blk T4 = some b → w4.heap.size ≤ b := fun b hb => (Own.lt o4 hb).1
      have hi4 : ∀ b, blk T4 = some b → b < w5.heap.size := fun b hb => (Own.lt o4 hb).2
      go_wp2_with fail
      refine (toMove_any x1.1.1 x1.1.2 x1.2.1 x1.2.2 _).mono ?_
      rintro e w6 ⟨rfl, b5⟩
      have o3_w6 : OwnE 4 encMove 30 w6 w3.heap.size R3 rc3 (addMOf xs0 x1) := Own.below o3_w5 b5
      have o4_w6 : OwnE 4 encMove 30 w6 w4.heap.size T4 xs0.length xs0 := Own.below o4 b5
      have z_w6 : w5.heap.size ≤ w6.heap.size := b5.size
      have c_w6 : Below w.heap.size w w6 := c_w5.trans (b5.mono (by omega))
      have q1_0_w6 : w6.cell? ⟨w.heap.size, 0, none⟩ = some (encMove x1 0) := (b5.cell (by show w.heap.size < _; omega)).trans q1_0_w5
      have q1_1_w6 : w6.cell? ⟨w.heap.size, 1, none⟩ = some (encMove x1 1) := (b5.cell (by show w.heap.size < _; omega)).trans q1_1_w5
      have q1_2_w6 : w6.cell? ⟨w.heap.size, 2, none⟩ = some (encMove x1 2) := (b5.cell (by show w.heap.size < _; omega)).trans q1_2_w5
      have q1_3_w6 : w6.cell? ⟨w.heap.size, 3, none⟩ = some (encMove x1 3) := (b5.cell (by show w.heap.size < _; omega)).trans q1_3_w5
      have h0_w6 : RdE 4 encMove w6 w.heap.size A0 xs0 := h0_w5.below (b5.mono (by omega))
      go_wp2_with fail
      refine (implAddMove_any _ _ w6.heap.size xs0 x1 _ (RdE.more (OwnE.rd o4_w6) (by omega)) (by omega) (by omega) (Own.shp o4) (Nat.le_refl _) HSZ0.out (okwszMove _wf1)).mono ?_
      rintro e w7 ⟨R6, rc6, rfl, o6, b6⟩
      have o3_w7 : OwnE 4 encMove 30 w7 w3.heap.size R3 rc3 (addMOf xs0 x1) := Own.below o3_w6 b6
      have o4_w7 : OwnE 4 encMove 30 w7 w4.heap.size T4 xs0.length xs0 := Own.below o4_w6 b6
      have z_w7 : w6.heap.size ≤ w7.heap.size := b6.size
      have c_w7 : Below w.heap.size w w7 := c_w6.trans (b6.mono (by omega))
      have q1_0_w7 : w7.cell? ⟨w.heap.size, 0, none⟩ = some (encMove x1 0) := (b6.cell (by show w.heap.size < _; omega)).trans q1_0_w6
      have q1_1_w7 : w7.cell? ⟨w.heap.size, 1, none⟩ = some (encMove x1 1) := (b6.cell (by show w.heap.size < _; omega)).trans q1_1_w6
      have q1_2_w7 : w7.cell? ⟨w.heap.size, 2, none⟩ = some (encMove x1 2) := (b6.cell (by show w.heap.size < _; omega)).trans q1_2_w6
      have q1_3_w7 : w7.cell? ⟨w.heap.size, 3, none⟩ = some (encMove x1 3) := (b6.cell (by show w.heap.size < _; omega)).trans q1_3_w6
      have h0_w7 : RdE 4 encMove w7 w.heap.size A0 xs0 := h0_w6.below (b6.mono (by omega))
      have lo6 : ∀ b, blk R6 = some b → w6.heap.size ≤ b := fun b hb => (Own.lt o6 hb).1
      have hi6 : ∀ b, blk R6 = some b → b < w7.heap.size := fun b hb => (Own.lt o6 hb).2
      go_wp2_with fail
      refine (eqMoveS_any _ _ _ _ _ _ _ _ (RdE.more (OwnE.rd o6) (by omega : _ ≤ w7.heap.size)) (RdE.more (OwnE.rd o3_w7) (by omega)) (by omega) (by omega) (by omega)).mono ?_
      rintro e w8 ⟨rfl, b7⟩
      have o3_w8 : OwnE 4 encMove 30 w8 w3.heap.size R3 rc3 (addMOf xs0 x1) := Own.below o3_w7 b7
      have o4_w8 : OwnE 4 encMove 30 w8 w4.heap.size T4 xs0.length xs0 := Own.below o4_w7 b7
      have o6_w8 : OwnE 4 encMove 30 w8 w6.heap.size R6 rc6 (addMOf xs0 x1) := Own.below o6 b7
      have z_w8 : w7.heap.size ≤ w8.heap.size := b7.size
      have c_w8 : Below w.heap.size w w8 := c_w7.trans (b7.mono (by omega))
      have q1_0_w8 : w8.cell? ⟨w.heap.size, 0, none⟩ = some (encMove x1 0) := (b7.cell (by show w.heap.size < _; omega)).trans q1_0_w7
      have q1_1_w8 : w8.cell? ⟨w.heap.size, 1, none⟩ = some (encMove x1 1) := (b7.cell (by show w.heap.size < _; omega)).trans q1_1_w7
      have q1_2_w8 : w8.cell? ⟨w.heap.size, 2, none⟩ = some (encMove x1 2) := (b7.cell (by show w.heap.size < _; omega)).trans q1_2_w7
      have q1_3_w8 : w8.cell? ⟨w.heap.size, 3, none⟩ = some (encMove x1 3) := (b7.cell (by show w.heap.size < _; omega)).trans q1_3_w7
      have h0_w8 : RdE 4 encMove w8 w.heap.size A0 xs0 := h0_w7.below (b7.mono (by omega))
      go_wp2_with fail
      refine (toMoveS_any _ _ _ xs0 _ h0_w8 (by omega) (by omega)).mono ?_
      rintro e w9 ⟨T8, rfl, o8, b8⟩
      have o3_w9 : OwnE 4 encMove 30 w9 w3.heap.size R3 rc3 (addMOf xs0 x1) := Own.below o3_w8 b8
      have o4_w9 : OwnE 4 encMove 30 w9 w4.heap.size T4 xs0.length xs0 := Own.below o4_w8 b8
      have o6_w9 : OwnE 4 encMove 30 w9 w6.heap.size R6 rc6 (addMOf xs0 x1) := Own.below o6_w8 b8
      have z_w9 : w8.heap.size ≤ w9.heap.size := b8.size
      have c_w9 : Below w.heap.size w w9 := c_w8.trans (b8.mono (by omega))
      have q1_0_w9 : w9.cell? ⟨w.heap.size, 0, none⟩ = some (encMove x1 0) := (b8.cell (by show w.heap.size < _; omega)).trans q1_0_w8
      have q1_1_w9 : w9.cell? ⟨w.heap.size, 1, none⟩ = some (encMove x1 1) := (b8.cell (by show w.heap.size < _; omega)).trans q1_1_w8
      have q1_2_w9 : w9.cell? ⟨w.heap.size, 2, none⟩ = some (encMove x1 2) := (b8.cell (by show w.heap.size < _; omega)).trans q1_2_w8
      have q1_3_w9 : w9.cell? ⟨w.heap.size, 3, none⟩ = some (encMove x1 3) := (b8.cell (by show w.heap.size < _; omega)).trans q1_3_w8
      have h0_w9 : RdE 4 encMove w9 w.heap.size A0 xs0 := h0_w8.below (b8.mono (by omega))
      go_wp2_with fail
      refine (eqMoveS_any _ _ _ _ _ _ _ _ (RdE.more (OwnE.rd o4_w9) (by omega : _ ≤ w9.heap.size)) (RdE.more (OwnE.rd o8) (by omega)) (by omega) (by omega) (by omega)).mono ?_
      rintro e w10 ⟨rfl, b9⟩
      have o3_w10 : OwnE 4 encMove 30 w10 w3.heap.size R3 rc3 (addMOf xs0 x1) := Own.below o3_w9 b9
      have o4_w10 : OwnE 4 encMove 30 w10 w4.heap.size T4 xs0.length xs0 := Own.below o4_w9 b9
      have o6_w10 : OwnE 4 encMove 30 w10 w6.heap.size R6 rc6 (addMOf xs0 x1) := Own.below o6_w9 b9
      have z_w10 : w9.heap.size ≤ w10.heap.size := b9.size
      have c_w10 : Below w.heap.size w w10 := c_w9.trans (b9.mono (by omega))
      have q1_0_w10 : w10.cell? ⟨w.heap.size, 0, none⟩ = some (encMove x1 0) := (b9.cell (by show w.heap.size < _; omega)).trans q1_0_w9
      have q1_1_w10 : w10.cell? ⟨w.heap.size, 1, none⟩ = some (encMove x1 1) := (b9.cell (by show w.heap.size < _; omega)).trans q1_1_w9
      have q1_2_w10 : w10.cell? ⟨w.heap.size, 2, none⟩ = some (encMove x1 2) := (b9.cell (by show w.heap.size < _; omega)).trans q1_2_w9
      have q1_3_w10 : w10.cell? ⟨w.heap.size, 3, none⟩ = some (encMove x1 3) := (b9.cell (by show w.heap.size < _; omega)).trans q1_3_w9
      have h0_w10 : RdE 4 encMove w10 w.heap.size A0 xs0 := h0_w9.below (b9.mono (by omega))
      have r8_w10 : RdE 4 encMove w10 w9.heap.size T8 xs0 := (OwnE.rd o8).below (b9.mono (by omega))
      go_wp2_with fail
      refine (markMoveS_any _ _ _ _ _ _ _ o4_w10 (by omega) (by omega) (by omega)).mono ?_
      rintro e w11 ⟨rfl, o10, g10⟩
      have b10 := grown_below g10 lo4 (by omega)
      have o3_w11 : OwnE 4 encMove 30 w11 w3.heap.size R3 rc3 (addMOf xs0 x1) := Own.belowB o3_w10 b10 (fun b hb => by have := hi3 b hb; omega)
      have o6_w11 : OwnE 4 encMove 30 w11 w6.heap.size R6 rc6 (addMOf xs0 x1) := Own.kept o6_w10 g10 (blk_ne' (B := w5.heap.size) hi4 (fun b hb => by have := lo6 b hb; omega))
      have z_w11 : w10.heap.size ≤ w11.heap.size := b10.size
      have c_w11 : Below w.heap.size w w11 := c_w10.trans (b10.mono (by omega))
      have q1_0_w11 : w11.cell? ⟨w.heap.size, 0, none⟩ = some (encMove x1 0) := (b10.cell (by show w.heap.size < _; omega)).trans q1_0_w10
      have q1_1_w11 : w11.cell? ⟨w.heap.size, 1, none⟩ = some (encMove x1 1) := (b10.cell (by show w.heap.size < _; omega)).trans q1_1_w10
      have q1_2_w11 : w11.cell? ⟨w.heap.size, 2, none⟩ = some (encMove x1 2) := (b10.cell (by show w.heap.size < _; omega)).trans q1_2_w10
      have q1_3_w11 : w11.cell? ⟨w.heap.size, 3, none⟩ = some (encMove x1 3) := (b10.cell (by show w.heap.size < _; omega)).trans q1_3_w10
      have h0_w11 : RdE 4 encMove w11 w.heap.size A0 xs0 := h0_w10.below (b10.mono (by omega))
      have lo10 := lo4
      have hi10 := hi4
      go_wp2_with fail
      refine (eqMoveS_any _ _ _ _ _ _ _ _ (RdE.more (OwnE.rd o6_w11) (by omega : _ ≤ w11.heap.size)) (RdE.more (OwnE.rd o3_w11) (by omega)) (by omega) (by omega) (by omega)).mono ?_
      rintro e w12 ⟨rfl, b11⟩
      have o3_w12 : OwnE 4 encMove 30 w12 w3.heap.size R3 rc3 (addMOf xs0 x1) := Own.below o3_w11 b11
      have o6_w12 : OwnE 4 encMove 30 w12 w6.heap.size R6 rc6 (addMOf xs0 x1) := Own.below o6_w11 b11
      have z_w12 : w11.heap.size ≤ w12.heap.size := b11.size
      have c_w12 : Below w.heap.size w w12 := c_w11.trans (b11.mono (by omega))
      have q1_0_w12 : w12.cell? ⟨w.heap.size, 0, none⟩ = some (encMove x1 0) := (b11.cell (by show w.heap.size < _; omega)).trans q1_0_w11
      have q1_1_w12 : w12.cell? ⟨w.heap.size, 1, none⟩ = some (encMove x1 1) := (b11.cell (by show w.heap.size < _; omega)).trans q1_1_w11
      have q1_2_w12 : w12.cell? ⟨w.heap.size, 2, none⟩ = some (encMove x1 2) := (b11.cell (by show w.heap.size < _; omega)).trans q1_2_w11
      have q1_3_w12 : w12.cell? ⟨w.heap.size, 3, none⟩ = some (encMove x1 3) := (b11.cell (by show w.heap.size < _; omega)).trans q1_3_w11
      have h0_w12 : RdE 4 encMove w12 w.heap.size A0 xs0 := h0_w11.below (b11.mono (by omega))
      go_wp2_with fail
      refine (markMoveS_any _ _ _ _ _ _ _ o6_w12 (by omega) (by omega) (by omega)).mono ?_
      rintro e w13 ⟨rfl, o12, g12⟩
      have b12 := grown_below g12 lo6 (by omega)
      have o3_w13 : OwnE 4 encMove 30 w13 w3.heap.size R3 rc3 (addMOf xs0 x1) := Own.belowB o3_w12 b12 (fun b hb => by have := hi3 b hb; omega)
      have z_w13 : w12.heap.size ≤ w13.heap.size := b12.size
      have c_w13 : Below w.heap.size w w13 := c_w12.trans (b12.mono (by omega))
      have q1_0_w13 : w13.cell? ⟨w.heap.size, 0, none⟩ = some (encMove x1 0) := (b12.cell (by show w.heap.size < _; omega)).trans q1_0_w12
      have q1_1_w13 : w13.cell? ⟨w.heap.size, 1, none⟩ = some (encMove x1 1) := (b12.cell (by show w.heap.size < _; omega)).trans q1_1_w12
      have q1_2_w13 : w13.cell? ⟨w.heap.size, 2, none⟩ = some (encMove x1 2) := (b12.cell (by show w.heap.size < _; omega)).trans q1_2_w12
      have q1_3_w13 : w13.cell? ⟨w.heap.size, 3, none⟩ = some (encMove x1 3) := (b12.cell (by show w.heap.size < _; omega)).trans q1_3_w12
      have h0_w13 : RdE 4 encMove w13 w.heap.size A0 xs0 := h0_w12.below (b12.mono (by omega))
      have lo12 := lo6
      have hi12 := hi6
      go_wp2_with fail
      refine (heldMoveS_any _ _ _ _ _ _ (Own.rd o12) (by omega) (by omega) (by omega) (by omega)).mono ?_
      rintro e w14 ⟨rfl, b13⟩
      have o3_w14 : OwnE 4 encMove 30 w14 w3.heap.size R3 rc3 (addMOf xs0 x1) := Own.below o3_w13 b13
      have o12_w14 := Own.below o12 b13
      have z_w14 : w13.heap.size ≤ w14.heap.size := b13.size
      have c_w14 : Below w.heap.size w w14 := c_w13.trans (b13.mono (by omega))
      have q1_0_w14 : w14.cell? ⟨w.heap.size, 0, none⟩ = some (encMove x1 0) := (b13.cell (by show w.heap.size < _; omega)).trans q1_0_w13
      have q1_1_w14 : w14.cell? ⟨w.heap.size, 1, none⟩ = some (encMove x1 1) := (b13.cell (by show w.heap.size < _; omega)).trans q1_1_w13
      have q1_2_w14 : w14.cell? ⟨w.heap.size, 2, none⟩ = some (encMove x1 2) := (b13.cell (by show w.heap.size < _; omega)).trans q1_2_w13
      have q1_3_w14 : w14.cell? ⟨w.heap.size, 3, none⟩ = some (encMove x1 3) := (b13.cell (by show w.heap.size < _; omega)).trans q1_3_w13
      have h0_w14 : RdE 4 encMove w14 w.heap.size A0 xs0 := h0_w13.below (b13.mono (by omega))
      go_wp2_with fail
      have zd15 : (w14.drew).heap.size = w14.heap.size := rfl
      have c_d15 : Below w.heap.size w (w14.drew) := c_w14.drew
      have h0_d15 : RdE 4 encMove (w14.drew) w.heap.size A0 xs0 := h0_w14
      have o3_d15 : OwnE 4 encMove 30 (w14.drew) w3.heap.size R3 rc3 (addMOf xs0 x1) := o3_w14
      have o12_d15 := Own.drewN o12_w14 1
      have q1_0_d15 : (w14.drew).cell? ⟨w.heap.size, 0, none⟩ = some (encMove x1 0) := q1_0_w14
      have q1_1_d15 : (w14.drew).cell? ⟨w.heap.size, 1, none⟩ = some (encMove x1 1) := q1_1_w14
      have q1_2_d15 : (w14.drew).cell? ⟨w.heap.size, 2, none⟩ = some (encMove x1 2) := q1_2_w14
      have q1_3_d15 : (w14.drew).cell? ⟨w.heap.size, 3, none⟩ = some (encMove x1 3) := q1_3_w14
      go_region_held3 (fun w' => w'.cell? ⟨w.heap.size, 0, none⟩ = some (encMove x1 0) ∧ w'.cell? ⟨w.heap.size, 1, none⟩ = some (encMove x1 1) ∧ w'.cell? ⟨w.heap.size, 2, none⟩ = some (encMove x1 2) ∧ w'.cell? ⟨w.heap.size, 3, none⟩ = some (encMove x1 3)) (first | exact ⟨q1_0_d15, q1_1_d15, q1_2_d15, q1_3_d15⟩ | exact ⟨q1_0_w16, q1_1_w16, q1_2_w16, q1_3_w16⟩ | exact ⟨q1_0_w17, q1_1_w17, q1_2_w17, q1_3_w17⟩ | exact ⟨q1_0_w18, q1_1_w18, q1_2_w18, q1_3_w18⟩ | go_keep) (first
        | (go_at_call 16; refine (toMoveS_any _ _ _ xs0 _ h0_d15 (by omega) (by omega)).mono ?_; rintro e w16 ⟨T14, rfl, o14, b14⟩; have o3_w16 : OwnE 4 encMove 30 w16 w3.heap.size R3 rc3 (addMOf xs0 x1) := Own.below o3_d15 b14; have o12_w16 := Own.below o12_d15 b14; have z_w16 : (w14.drew).heap.size ≤ w16.heap.size := b14.size; have c_w16 : Below w.heap.size w w16 := c_d15.trans (b14.mono (by omega)); have q1_0_w16 : w16.cell? ⟨w.heap.size, 0, none⟩ = some (encMove x1 0) := (b14.cell (by show w.heap.size < _; omega)).trans q1_0_d15; have q1_1_w16 : w16.cell? ⟨w.heap.size, 1, none⟩ = some (encMove x1 1) := (b14.cell (by show w.heap.size < _; omega)).trans q1_1_d15; have q1_2_w16 : w16.cell? ⟨w.heap.size, 2, none⟩ = some (encMove x1 2) := (b14.cell (by show w.heap.size < _; omega)).trans q1_2_d15; have q1_3_w16 : w16.cell? ⟨w.heap.size, 3, none⟩ = some (encMove x1 3) := (b14.cell (by show w.heap.size < _; omega)).trans q1_3_d15; have h0_w16 : RdE 4 encMove w16 w.heap.size A0 xs0 := h0_d15.below (b14.mono (by omega)))
        | (go_at_call 30; refine (toMove_any x1.1.1 x1.1.2 x1.2.1 x1.2.2 _).mono ?_; rintro e w17 ⟨rfl, b15⟩; have o3_w17 : OwnE 4 encMove 30 w17 w3.heap.size R3 rc3 (addMOf xs0 x1) := Own.below o3_w16 b15; have o12_w17 := Own.below o12_w16 b15; have z_w17 : w16.heap.size ≤ w17.heap.size := b15.size; have c_w17 : Below w.heap.size w w17 := c_w16.trans (b15.mono (by omega)); have q1_0_w17 : w17.cell? ⟨w.heap.size, 0, none⟩ = some (encMove x1 0) := (b15.cell (by show w.heap.size < _; omega)).trans q1_0_w16; have q1_1_w17 : w17.cell? ⟨w.heap.size, 1, none⟩ = some (encMove x1 1) := (b15.cell (by show w.heap.size < _; omega)).trans q1_1_w16; have q1_2_w17 : w17.cell? ⟨w.heap.size, 2, none⟩ = some (encMove x1 2) := (b15.cell (by show w.heap.size < _; omega)).trans q1_2_w16; have q1_3_w17 : w17.cell? ⟨w.heap.size, 3, none⟩ = some (encMove x1 3) := (b15.cell (by show w.heap.size < _; omega)).trans q1_3_w16; have h0_w17 : RdE 4 encMove w17 w.heap.size A0 xs0 := h0_w16.below (b15.mono (by omega)); have r14_w17 : RdE 4 encMove w17 w16.heap.size T14 xs0 := (OwnE.rd o14).below (b15.mono (by omega)))
        | (go_at_call 26; refine (implAddMove_any _ _ w17.heap.size xs0 x1 _ (RdE.more r14_w17 (by omega)) (by omega) (by omega) (Own.shp o14) (Nat.le_refl _) HSZ0.out (okwszMove _wf1)).mono ?_; rintro e w18 ⟨R16, rc16, rfl, o16, b16⟩; have o3_w18 : OwnE 4 encMove 30 w18 w3.heap.size R3 rc3 (addMOf xs0 x1) := Own.below o3_w17 b16; have o12_w18 := Own.below o12_w17 b16; have z_w18 : w17.heap.size ≤ w18.heap.size := b16.size; have c_w18 : Below w.heap.size w w18 := c_w17.trans (b16.mono (by omega)); have q1_0_w18 : w18.cell? ⟨w.heap.size, 0, none⟩ = some (encMove x1 0) := (b16.cell (by show w.heap.size < _; omega)).trans q1_0_w17; have q1_1_w18 : w18.cell? ⟨w.heap.size, 1, none⟩ = some (encMove x1 1) := (b16.cell (by show w.heap.size < _; omega)).trans q1_1_w17; have q1_2_w18 : w18.cell? ⟨w.heap.size, 2, none⟩ = some (encMove x1 2) := (b16.cell (by show w.heap.size < _; omega)).trans q1_2_w17; have q1_3_w18 : w18.cell? ⟨w.heap.size, 3, none⟩ = some (encMove x1 3) := (b16.cell (by show w.heap.size < _; omega)).trans q1_3_w17; have h0_w18 : RdE 4 encMove w18 w.heap.size A0 xs0 := h0_w17.below (b16.mono (by omega)); have r14_w18 : RdE 4 encMove w18 w16.heap.size T14 xs0 := r14_w17.below (b16.mono (by omega)); have lo16 : ∀ b, blk R16 = some b → w17.heap.size ≤ b := fun b hb => (Own.lt o16 hb).1; have hi16 : ∀ b, blk R16 = some b → b < w18.heap.size := fun b hb => (Own.lt o16 hb).2))
      go_wp2_with fail
      refine (eqMoveS_any _ _ _ _ _ _ _ _ (RdE.more (OwnE.rd o16) (by omega : _ ≤ w18.heap.size)) (RdE.more (OwnE.rd o3_w18) (by omega)) (by omega) (by omega) (by omega)).mono ?_
      rintro e w19 ⟨rfl, b17⟩
      have o3_w19 : OwnE 4 encMove 30 w19 w3.heap.size R3 rc3 (addMOf xs0 x1) := Own.below o3_w18 b17
      have o12_w19 := Own.below o12_w18 b17
      have o16_w19 : OwnE 4 encMove 30 w19 w17.heap.size R16 rc16 (addMOf xs0 x1) := Own.below o16 b17
      have z_w19 : w18.heap.size ≤ w19.heap.size := b17.size
      have c_w19 : Below w.heap.size w w19 := c_w18.trans (b17.mono (by omega))
      have q1_0_w19 : w19.cell? ⟨w.heap.size, 0, none⟩ = some (encMove x1 0) := (b17.cell (by show w.heap.size < _; omega)).trans q1_0_w18
      have q1_1_w19 : w19.cell? ⟨w.heap.size, 1, none⟩ = some (encMove x1 1) := (b17.cell (by show w.heap.size < _; omega)).trans q1_1_w18
      have q1_2_w19 : w19.cell? ⟨w.heap.size, 2, none⟩ = some (encMove x1 2) := (b17.cell (by show w.heap.size < _; omega)).trans q1_2_w18
      have q1_3_w19 : w19.cell? ⟨w.heap.size, 3, none⟩ = some (encMove x1 3) := (b17.cell (by show w.heap.size < _; omega)).trans q1_3_w18
      have h0_w19 : RdE 4 encMove w19 w.heap.size A0 xs0 := h0_w18.below (b17.mono (by omega))
      go_wp2_with fail
      refine (heldMoveS_any _ _ _ _ _ _ (Own.rd o12_w19) (by omega) (by omega) (by omega) (by omega)).mono ?_
      rintro e w20 ⟨rfl, b18⟩
      have o3_w20 : OwnE 4 encMove 30 w20 w3.heap.size R3 rc3 (addMOf xs0 x1) := Own.below o3_w19 b18
      have o12_w20 := Own.below o12_w19 b18
      have o16_w20 : OwnE 4 encMove 30 w20 w17.heap.size R16 rc16 (addMOf xs0 x1) := Own.below o16_w19 b18
      have z_w20 : w19.heap.size ≤ w20.heap.size := b18.size
      have c_w20 : Below w.heap.size w w20 := c_w19.trans (b18.mono (by omega))
      have q1_0_w20 : w20.cell? ⟨w.heap.size, 0, none⟩ = some (encMove x1 0) := (b18.cell (by show w.heap.size < _; omega)).trans q1_0_w19
      have q1_1_w20 : w20.cell? ⟨w.heap.size, 1, none⟩ = some (encMove x1 1) := (b18.cell (by show w.heap.size < _; omega)).trans q1_1_w19
      have q1_2_w20 : w20.cell? ⟨w.heap.size, 2, none⟩ = some (encMove x1 2) := (b18.cell (by show w.heap.size < _; omega)).trans q1_2_w19
      have q1_3_w20 : w20.cell? ⟨w.heap.size, 3, none⟩ = some (encMove x1 3) := (b18.cell (by show w.heap.size < _; omega)).trans q1_3_w19
      have h0_w20 : RdE 4 encMove w20 w.heap.size A0 xs0 := h0_w19.below (b18.mono (by omega))
      go_wp2_with fail
      go_ret
      exact ⟨rfl, c_w20⟩
    · have y1 : szL (1048576 - (totMove xs0 : Int)) (byMove x1) = -1 := szL_no (by omega)
      have hbA : Below w.heap.size w (w.alloc (.cells #[encMove x1 0, encMove x1 1, encMove x1 2, encMove x1 3] 51)) := (Below.refl _ _).alloc (Nat.le_refl _) _
      go_enter Try.func8, Try.ntmps8
      go_wp2_with fail
      refine (szMoveS_any A0 cap0 w.heap.size xs0 _ _ (h0.below (hbA.mono (Nat.le_refl _))) hbA.size (by omega) HSZ0.out (by omega) (by omega)).mono ?_
      rintro e u0 ⟨rfl, bu0⟩
      have cu0 := hbA.trans (bu0.mono hbA.size)
      have qo0_0 : u0.cell? ⟨w.heap.size, 0, none⟩ = some (encMove x1 0) := (Below.cell bu0 (p := ⟨w.heap.size, 0, none⟩) (by first | (show w.heap.size < _; simp; done) | (show w.heap.size < _; have := hbA.size; omega))).trans (by first | assumption | (rw [World.cell?_alloc_at _ _ _ _ rfl]; rfl))
      have qo0_1 : u0.cell? ⟨w.heap.size, 1, none⟩ = some (encMove x1 1) := (Below.cell bu0 (p := ⟨w.heap.size, 1, none⟩) (by first | (show w.heap.size < _; simp; done) | (show w.heap.size < _; have := hbA.size; omega))).trans (by first | assumption | (rw [World.cell?_alloc_at _ _ _ _ rfl]; rfl))
      have qo0_2 : u0.cell? ⟨w.heap.size, 2, none⟩ = some (encMove x1 2) := (Below.cell bu0 (p := ⟨w.heap.size, 2, none⟩) (by first | (show w.heap.size < _; simp; done) | (show w.heap.size < _; have := hbA.size; omega))).trans (by first | assumption | (rw [World.cell?_alloc_at _ _ _ _ rfl]; rfl))
      have qo0_3 : u0.cell? ⟨w.heap.size, 3, none⟩ = some (encMove x1 3) := (Below.cell bu0 (p := ⟨w.heap.size, 3, none⟩) (by first | (show w.heap.size < _; simp; done) | (show w.heap.size < _; have := hbA.size; omega))).trans (by first | assumption | (rw [World.cell?_alloc_at _ _ _ _ rfl]; rfl))
      go_wp2_with fail
      have hsv1 := szMove_any x1.1.1 x1.1.2 x1.2.1 x1.2.2 (1048576 - (totMove xs0 : Int)) u0 (by omega) (by omega) (okwVMove_0 _wf1) (okwVMove_1 _wf1) (okwVMove_2 _wf1) (okwVMove_3 _wf1)
      rw [show x1.1.1.size + x1.1.2.size + x1.2.1.size + x1.2.2.size = byMove x1 from rfl, y1] at hsv1
      have HSV1 := Lib.hid hsv1
      clear hsv1
      refine HSV1.out.mono ?_
      rintro e u1 ⟨rfl, bu1⟩
      have cu1 := cu0.trans (bu1.mono cu0.size)
      go_wp2_with fail
      go_ret
      exact ⟨rfl, cu1⟩
  · have y0 : szL (1048576) (totMove xs0) = -1 := szL_no (by omega)
    have hbA : Below w.heap.size w (w.alloc (.cells #[encMove x1 0, encMove x1 1, encMove x1 2, encMove x1 3] 51)) := (Below.refl _ _).alloc (Nat.le_refl _) _
    go_enter Try.func8, Try.ntmps8
    go_wp2_with fail
    refine (szMoveS_any A0 cap0 w.heap.size xs0 _ _ (h0.below (hbA.mono (Nat.le_refl _))) hbA.size (by omega) HSZ0.out (by omega) (by omega)).mono ?_
    rintro e u0 ⟨rfl, bu0⟩
    have cu0 := hbA.trans (bu0.mono hbA.size)
    go_wp2_with fail
    go_ret
    exact ⟨rfl, cu0⟩
end Go.Proofs.Ytdcppbaahoimfaa
