import Derived.Test.YtnplpllhochlfaaLiveA
import Derived.Test.YtnplpllhochlfaaOpenItem
import Derived.Test.YtnplpllhochlfaaOpenTomb
namespace Go.Proofs.Ytnplpllhochlfaa
open Go.RowKit
set_option maxHeartbeats 400000 in
theorem FnExactLiveItems_walk (A0 : Option Addr) (cap0 : Nat) (xs0 : List ElItem) (A1 : Option Addr) (cap1 : Nat) (xs1 : List ElTomb) (a2 : Int) (w : World) (h0 : RdE 4 encItem w w.heap.size A0 xs0) (hc0 : xs0.length ≤ cap0) (hm0 : cap0 ≤ maxLen) (_wf0 : ∀ x ∈ xs0, okwItem x) (h1 : RdE 2 encTomb w w.heap.size A1 xs1) (hc1 : xs1.length ≤ cap1) (hm1 : cap1 ≤ maxLen) (_wf1 : ∀ x ∈ xs1, okwTomb x) (_ : (Lit.int .i64 a2).wf = true) :
    Calls Try.prog 4 #[.slice A0 xs0.length cap0, .slice A1 xs1.length cap1, .int .i64 a2] w fun e w' => e = .returned (.bool true) ∧ Below w.heap.size w w' := by
  unfold maxLen at hm0
  unfold maxLen at hm1
  have hsz0 : ∀ k, k < xs0.length → (gt xs0 k).1.size ≤ maxLen ∧ (gt xs0 k).2.1.size ≤ maxLen ∧ (gt xs0 k).2.2.1.size ≤ maxLen := fun k hk => okwszItem (_wf0 _ (gt_mem hk))
  have HSZ0 := Lib.hid hsz0
  clear hsz0
  have hsz1 : ∀ k, k < xs1.length → (gt xs1 k).1.size ≤ maxLen := fun k hk => okwszTomb (_wf1 _ (gt_mem hk))
  have HSZ1 := Lib.hid hsz1
  clear hsz1
  by_cases hz0 : (totItem xs0 : Int) ≤ 1048576
  · have y0 : szL (1048576) (totItem xs0) = 1048576 - (totItem xs0 : Int) := szL_yes hz0
    have yl0 : xs0.length ≤ totItem xs0 := by unfold totItem; omega
    have d0 : decide (1048576 - (totItem xs0 : Int) < 0) = false := decide_eq_false (by omega)
    by_cases hz1 : (totTomb xs1 : Int) ≤ 1048576 - (totItem xs0 : Int)
    · have y1 : szL (1048576 - (totItem xs0 : Int)) (totTomb xs1) = 1048576 - (totItem xs0 : Int) - (totTomb xs1 : Int) := szL_yes hz1
      have yl1 : xs1.length ≤ totTomb xs1 := by unfold totTomb; omega
      have d1 : decide (1048576 - (totItem xs0 : Int) - (totTomb xs1 : Int) < 0) = false := decide_eq_false (by omega)
      have hR := liveOf_len xs0 xs1 a2
      have hselfR := sameB_self (liveOf xs0 xs1 a2)
      have self0 := sameB_self xs0
      have self1 := sameB_self xs1
      go_enter Try.func4, Try.ntmps4
      go_wp2_with fail
      refine (szItemS_any A0 cap0 w.heap.size xs0 _ _ h0 (Nat.le_refl _) (by omega) HSZ0.out (by omega) (by omega)).mono ?_
      rintro e v0 ⟨rfl, bz0⟩
      have z_v0 : w.heap.size ≤ v0.heap.size := bz0.size
      have c_v0 : Below w.heap.size w v0 := bz0.mono (by omega)
      have h0_v0 : RdE 4 encItem v0 w.heap.size A0 xs0 := h0.below (bz0.mono (by omega))
      have h1_v0 : RdE 2 encTomb v0 w.heap.size A1 xs1 := h1.below (bz0.mono (by omega))
      go_wp2_with fail
      refine (szTombS_any A1 cap1 w.heap.size xs1 _ _ h1_v0 (c_v0.size) (by omega) HSZ1.out (by omega) (by omega)).mono ?_
      rintro e v1 ⟨rfl, bz1⟩
      have z_v1 : v0.heap.size ≤ v1.heap.size := bz1.size
      have c_v1 : Below w.heap.size w v1 := c_v0.trans (bz1.mono (by omega))
      have h0_v1 : RdE 4 encItem v1 w.heap.size A0 xs0 := h0_v0.below (bz1.mono (by omega))
      have h1_v1 : RdE 2 encTomb v1 w.heap.size A1 xs1 := h1_v0.below (bz1.mono (by omega))
      go_wp2_with fail
      refine (toItemS_any _ _ _ xs0 _ h0_v1 (by omega) (by omega)).mono ?_
      rintro e w1 ⟨T1, rfl, o1, b1⟩
      have z_w1 : v1.heap.size ≤ w1.heap.size := b1.size
      have c_w1 : Below w.heap.size w w1 := c_v1.trans (b1.mono (by omega))
      have h0_w1 : RdE 4 encItem w1 w.heap.size A0 xs0 := h0_v1.below (b1.mono (by omega))
      have h1_w1 : RdE 2 encTomb w1 w.heap.size A1 xs1 := h1_v1.below (b1.mono (by omega))
      go_wp2_with fail
      refine (toTombS_any _ _ _ xs1 _ h1_w1 (by omega) (by omega)).mono ?_
      rintro e w2 ⟨T2, rfl, o2, b2⟩
      have z_w2 : w1.heap.size ≤ w2.heap.size := b2.size
      have c_w2 : Below w.heap.size w w2 := c_w1.trans (b2.mono (by omega))
      have h0_w2 : RdE 4 encItem w2 w.heap.size A0 xs0 := h0_w1.below (b2.mono (by omega))
      have h1_w2 : RdE 2 encTomb w2 w.heap.size A1 xs1 := h1_w1.below (b2.mono (by omega))
      have r1_w2 : RdE 4 encItem w2 w1.heap.size T1 xs0 := (OwnE.rd o1).below (b2.mono (by omega))
      go_wp2_with fail
      refine (specLiveItems_any _ _ _ _ w2.heap.size xs0 xs1 a2 _ (RdE.more r1_w2 (by omega)) (RdE.more (OwnE.rd o2) (by omega)) (by omega) (by omega) (by omega) HSZ0.out HSZ1.out).mono ?_
      rintro e w3 ⟨R3, rc3, rfl, o3, b3⟩
      have z_w3 : w2.heap.size ≤ w3.heap.size := b3.size
      have c_w3 : Below w.heap.size w w3 := c_w2.trans (b3.mono (by omega))
      have h0_w3 : RdE 4 encItem w3 w.heap.size A0 xs0 := h0_w2.below (b3.mono (by omega))
      have h1_w3 : RdE 2 encTomb w3 w.heap.size A1 xs1 := h1_w2.below (b3.mono (by omega))
      have r1_w3 : RdE 4 encItem w3 w1.heap.size T1 xs0 := r1_w2.below (b3.mono (by omega))
      have r2_w3 : RdE 2 encTomb w3 w2.heap.size T2 xs1 := (OwnE.rd o2).below (b3.mono (by omega))
      have lo3 : ∀ b, blk R3 = some b → w2.heap.size ≤ b := fun b hb => (Own.lt o3 hb).1
      have hi3 : ∀ b, blk R3 = some b → b < w3.heap.size := fun b hb => (Own.lt o3 hb).2
      go_wp2_with fail
      refine (toItemS_any _ _ _ xs0 _ h0_w3 (by omega) (by omega)).mono ?_
      rintro e w4 ⟨T4, rfl, o4, b4⟩
      have o3_w4 : OwnE 4 encItem 34 w4 w2.heap.size R3 rc3 (liveOf xs0 xs1 a2) := Own.below o3 b4
      have z_w4 : w3.heap.size ≤ w4.heap.size := b4.size
      have c_w4 : Below w.heap.size w w4 := c_w3.trans (b4.mono (by omega))
      have h0_w4 : RdE 4 encItem w4 w.heap.size A0 xs0 := h0_w3.below (b4.mono (by omega))
      have h1_w4 : RdE 2 encTomb w4 w.heap.size A1 xs1 := h1_w3.below (b4.mono (by omega))
      have lo4 : ∀ b, blk T4 = some b → w3.heap.size ≤ b := fun b hb => (Own.lt o4 hb).1
      have hi4 : ∀ b, blk T4 = some b → b < w4.heap.size := fun b hb => (Own.lt o4 hb).2
      go_wp2_with fail
      refine (toTombS_any _ _ _ xs1 _ h1_w4 (by omega) (by omega)).mono ?_
      rintro e w5 ⟨T5, rfl, o5, b5⟩
      have o3_w5 : OwnE 4 encItem 34 w5 w2.heap.size R3 rc3 (liveOf xs0 xs1 a2) := Own.below o3_w4 b5
      have o4_w5 : OwnE 4 encItem 34 w5 w3.heap.size T4 xs0.length xs0 := Own.below o4 b5
      have z_w5 : w4.heap.size ≤ w5.heap.size := b5.size
      have c_w5 : Below w.heap.size w w5 := c_w4.trans (b5.mono (by omega))
      have h0_w5 : RdE 4 encItem w5 w.heap.size A0 xs0 := h0_w4.below (b5.mono (by omega))
      have h1_w5 : RdE 2 encTomb w5 w.heap.size A1 xs1 := h1_w4.below (b5.mono (by omega))
      have lo5 : ∀ b, blk T5 = some b → w4.heap.size ≤ b := fun b hb => (Own.lt o5 hb).1
      have hi5 : ∀ b, blk T5 = some b → b < w5.heap.size := fun b hb => (Own.lt o5 hb).2
      go_wp2_with fail
      refine (implLiveItems_any _ _ _ _ w5.heap.size xs0 xs1 a2 _ (RdE.more (OwnE.rd o4_w5) (by omega)) (RdE.more (OwnE.rd o5) (by omega)) (by omega) (by omega) (by omega) (Nat.le_refl _) (Nat.le_refl _) HSZ0.out HSZ1.out).mono ?_
      rintro e w6 ⟨R6, rc6, rfl, o6, b6⟩
      have o3_w6 : OwnE 4 encItem 34 w6 w2.heap.size R3 rc3 (liveOf xs0 xs1 a2) := Own.below o3_w5 b6
      have o4_w6 : OwnE 4 encItem 34 w6 w3.heap.size T4 xs0.length xs0 := Own.below o4_w5 b6
      have o5_w6 : OwnE 2 encTomb 54 w6 w4.heap.size T5 xs1.length xs1 := Own.below o5 b6
      have z_w6 : w5.heap.size ≤ w6.heap.size := b6.size
      have c_w6 : Below w.heap.size w w6 := c_w5.trans (b6.mono (by omega))
      have h0_w6 : RdE 4 encItem w6 w.heap.size A0 xs0 := h0_w5.below (b6.mono (by omega))
      have h1_w6 : RdE 2 encTomb w6 w.heap.size A1 xs1 := h1_w5.below (b6.mono (by omega))
      have lo6 : ∀ b, blk R6 = some b → w5.heap.size ≤ b := fun b hb => (Own.lt o6 hb).1
      have hi6 : ∀ b, blk R6 = some b → b < w6.heap.size := fun b hb => (Own.lt o6 hb).2
      go_wp2_with fail
      refine (eqItemS_any _ _ _ _ _ _ _ _ (RdE.more (OwnE.rd o6) (by omega : _ ≤ w6.heap.size)) (RdE.more (OwnE.rd o3_w6) (by omega)) (by omega) (by omega) (by omega)).mono ?_
      rintro e w7 ⟨rfl, b7⟩
      have o3_w7 : OwnE 4 encItem 34 w7 w2.heap.size R3 rc3 (liveOf xs0 xs1 a2) := Own.below o3_w6 b7
      have o4_w7 : OwnE 4 encItem 34 w7 w3.heap.size T4 xs0.length xs0 := Own.below o4_w6 b7
      have o5_w7 : OwnE 2 encTomb 54 w7 w4.heap.size T5 xs1.length xs1 := Own.below o5_w6 b7
      have o6_w7 : OwnE 4 encItem 34 w7 w5.heap.size R6 rc6 (liveOf xs0 xs1 a2) := Own.below o6 b7
      have z_w7 : w6.heap.size ≤ w7.heap.size := b7.size
      have c_w7 : Below w.heap.size w w7 := c_w6.trans (b7.mono (by omega))
      have h0_w7 : RdE 4 encItem w7 w.heap.size A0 xs0 := h0_w6.below (b7.mono (by omega))
      have h1_w7 : RdE 2 encTomb w7 w.heap.size A1 xs1 := h1_w6.below (b7.mono (by omega))
      go_wp2_with fail
      refine (toItemS_any _ _ _ xs0 _ h0_w7 (by omega) (by omega)).mono ?_
      rintro e w8 ⟨T8, rfl, o8, b8⟩
      have o3_w8 : OwnE 4 encItem 34 w8 w2.heap.size R3 rc3 (liveOf xs0 xs1 a2) := Own.below o3_w7 b8
      have o4_w8 : OwnE 4 encItem 34 w8 w3.heap.size T4 xs0.length xs0 := Own.below o4_w7 b8
      have o5_w8 : OwnE 2 encTomb 54 w8 w4.heap.size T5 xs1.length xs1 := Own.below o5_w7 b8
      have o6_w8 : OwnE 4 encItem 34 w8 w5.heap.size R6 rc6 (liveOf xs0 xs1 a2) := Own.below o6_w7 b8
      have z_w8 : w7.heap.size ≤ w8.heap.size := b8.size
      have c_w8 : Below w.heap.size w w8 := c_w7.trans (b8.mono (by omega))
      have h0_w8 : RdE 4 encItem w8 w.heap.size A0 xs0 := h0_w7.below (b8.mono (by omega))
      have h1_w8 : RdE 2 encTomb w8 w.heap.size A1 xs1 := h1_w7.below (b8.mono (by omega))
      go_wp2_with fail
      refine (eqItemS_any _ _ _ _ _ _ _ _ (RdE.more (OwnE.rd o4_w8) (by omega : _ ≤ w8.heap.size)) (RdE.more (OwnE.rd o8) (by omega)) (by omega) (by omega) (by omega)).mono ?_
      rintro e w9 ⟨rfl, b9⟩
      have o3_w9 : OwnE 4 encItem 34 w9 w2.heap.size R3 rc3 (liveOf xs0 xs1 a2) := Own.below o3_w8 b9
      have o4_w9 : OwnE 4 encItem 34 w9 w3.heap.size T4 xs0.length xs0 := Own.below o4_w8 b9
      have o5_w9 : OwnE 2 encTomb 54 w9 w4.heap.size T5 xs1.length xs1 := Own.below o5_w8 b9
      have o6_w9 : OwnE 4 encItem 34 w9 w5.heap.size R6 rc6 (liveOf xs0 xs1 a2) := Own.below o6_w8 b9
      have z_w9 : w8.heap.size ≤ w9.heap.size := b9.size
      have c_w9 : Below w.heap.size w w9 := c_w8.trans (b9.mono (by omega))
      have h0_w9 : RdE 4 encItem w9 w.heap.size A0 xs0 := h0_w8.below (b9.mono (by omega))
      have h1_w9 : RdE 2 encTomb w9 w.heap.size A1 xs1 := h1_w8.below (b9.mono (by omega))
      have r8_w9 : RdE 4 encItem w9 w8.heap.size T8 xs0 := (OwnE.rd o8).below (b9.mono (by omega))
      go_wp2_with fail
      refine (toTombS_any _ _ _ xs1 _ h1_w9 (by omega) (by omega)).mono ?_
      rintro e w10 ⟨T10, rfl, o10, b10⟩
      have o3_w10 : OwnE 4 encItem 34 w10 w2.heap.size R3 rc3 (liveOf xs0 xs1 a2) := Own.below o3_w9 b10
      have o4_w10 : OwnE 4 encItem 34 w10 w3.heap.size T4 xs0.length xs0 := Own.below o4_w9 b10
      have o5_w10 : OwnE 2 encTomb 54 w10 w4.heap.size T5 xs1.length xs1 := Own.below o5_w9 b10
      have o6_w10 : OwnE 4 encItem 34 w10 w5.heap.size R6 rc6 (liveOf xs0 xs1 a2) := Own.below o6_w9 b10
      have z_w10 : w9.heap.size ≤ w10.heap.size := b10.size
      have c_w10 : Below w.heap.size w w10 := c_w9.trans (b10.mono (by omega))
      have h0_w10 : RdE 4 encItem w10 w.heap.size A0 xs0 := h0_w9.below (b10.mono (by omega))
      have h1_w10 : RdE 2 encTomb w10 w.heap.size A1 xs1 := h1_w9.below (b10.mono (by omega))
      go_wp2_with fail
      refine (eqTombS_any _ _ _ _ _ _ _ _ (RdE.more (OwnE.rd o5_w10) (by omega : _ ≤ w10.heap.size)) (RdE.more (OwnE.rd o10) (by omega)) (by omega) (by omega) (by omega)).mono ?_
      rintro e w11 ⟨rfl, b11⟩
      have o3_w11 : OwnE 4 encItem 34 w11 w2.heap.size R3 rc3 (liveOf xs0 xs1 a2) := Own.below o3_w10 b11
      have o4_w11 : OwnE 4 encItem 34 w11 w3.heap.size T4 xs0.length xs0 := Own.below o4_w10 b11
      have o5_w11 : OwnE 2 encTomb 54 w11 w4.heap.size T5 xs1.length xs1 := Own.below o5_w10 b11
      have o6_w11 : OwnE 4 encItem 34 w11 w5.heap.size R6 rc6 (liveOf xs0 xs1 a2) := Own.below o6_w10 b11
      have z_w11 : w10.heap.size ≤ w11.heap.size := b11.size
      have c_w11 : Below w.heap.size w w11 := c_w10.trans (b11.mono (by omega))
      have h0_w11 : RdE 4 encItem w11 w.heap.size A0 xs0 := h0_w10.below (b11.mono (by omega))
      have h1_w11 : RdE 2 encTomb w11 w.heap.size A1 xs1 := h1_w10.below (b11.mono (by omega))
      have r10_w11 : RdE 2 encTomb w11 w10.heap.size T10 xs1 := (OwnE.rd o10).below (b11.mono (by omega))
      go_wp2_with fail
      refine (markItemS_any _ _ _ _ _ _ _ o4_w11 (by omega) (by omega) (by omega)).mono ?_
      rintro e w12 ⟨rfl, o12, g12⟩
      have b12 := grown_below g12 lo4 (by omega)
      have o3_w12 : OwnE 4 encItem 34 w12 w2.heap.size R3 rc3 (liveOf xs0 xs1 a2) := Own.belowB o3_w11 b12 (fun b hb => by have := hi3 b hb; omega)
      have o5_w12 : OwnE 2 encTomb 54 w12 w4.heap.size T5 xs1.length xs1 := Own.kept o5_w11 g12 (blk_ne' (B := w4.heap.size) hi4 (fun b hb => by have := lo5 b hb; omega))
      have o6_w12 : OwnE 4 encItem 34 w12 w5.heap.size R6 rc6 (liveOf xs0 xs1 a2) := Own.kept o6_w11 g12 (blk_ne' (B := w4.heap.size) hi4 (fun b hb => by have := lo6 b hb; omega))
      have z_w12 : w11.heap.size ≤ w12.heap.size := b12.size
      have c_w12 : Below w.heap.size w w12 := c_w11.trans (b12.mono (by omega))
      have h0_w12 : RdE 4 encItem w12 w.heap.size A0 xs0 := h0_w11.below (b12.mono (by omega))
      have h1_w12 : RdE 2 encTomb w12 w.heap.size A1 xs1 := h1_w11.below (b12.mono (by omega))
      have lo12 := lo4
      have hi12 := hi4
      go_wp2_with fail
      refine (markTombS_any _ _ _ _ _ _ _ o5_w12 (by omega) (by omega) (by omega)).mono ?_
      rintro e w13 ⟨rfl, o13, g13⟩
      have b13 := grown_below g13 lo5 (by omega)
      have o3_w13 : OwnE 4 encItem 34 w13 w2.heap.size R3 rc3 (liveOf xs0 xs1 a2) := Own.belowB o3_w12 b13 (fun b hb => by have := hi3 b hb; omega)
      have o6_w13 : OwnE 4 encItem 34 w13 w5.heap.size R6 rc6 (liveOf xs0 xs1 a2) := Own.kept o6_w12 g13 (blk_ne' (B := w5.heap.size) hi5 (fun b hb => by have := lo6 b hb; omega))
      have z_w13 : w12.heap.size ≤ w13.heap.size := b13.size
      have c_w13 : Below w.heap.size w w13 := c_w12.trans (b13.mono (by omega))
      have h0_w13 : RdE 4 encItem w13 w.heap.size A0 xs0 := h0_w12.below (b13.mono (by omega))
      have h1_w13 : RdE 2 encTomb w13 w.heap.size A1 xs1 := h1_w12.below (b13.mono (by omega))
      have lo13 := lo5
      have hi13 := hi5
      go_wp2_with fail
      refine (eqItemS_any _ _ _ _ _ _ _ _ (RdE.more (OwnE.rd o6_w13) (by omega : _ ≤ w13.heap.size)) (RdE.more (OwnE.rd o3_w13) (by omega)) (by omega) (by omega) (by omega)).mono ?_
      rintro e w14 ⟨rfl, b14⟩
      have o3_w14 : OwnE 4 encItem 34 w14 w2.heap.size R3 rc3 (liveOf xs0 xs1 a2) := Own.below o3_w13 b14
      have o6_w14 : OwnE 4 encItem 34 w14 w5.heap.size R6 rc6 (liveOf xs0 xs1 a2) := Own.below o6_w13 b14
      have z_w14 : w13.heap.size ≤ w14.heap.size := b14.size
      have c_w14 : Below w.heap.size w w14 := c_w13.trans (b14.mono (by omega))
      have h0_w14 : RdE 4 encItem w14 w.heap.size A0 xs0 := h0_w13.below (b14.mono (by omega))
      have h1_w14 : RdE 2 encTomb w14 w.heap.size A1 xs1 := h1_w13.below (b14.mono (by omega))
      go_wp2_with fail
      refine (markItemS_any _ _ _ _ _ _ _ o6_w14 (by omega) (by omega) (by omega)).mono ?_
      rintro e w15 ⟨rfl, o15, g15⟩
      have b15 := grown_below g15 lo6 (by omega)
      have o3_w15 : OwnE 4 encItem 34 w15 w2.heap.size R3 rc3 (liveOf xs0 xs1 a2) := Own.belowB o3_w14 b15 (fun b hb => by have := hi3 b hb; omega)
      have z_w15 : w14.heap.size ≤ w15.heap.size := b15.size
      have c_w15 : Below w.heap.size w w15 := c_w14.trans (b15.mono (by omega))
      have h0_w15 : RdE 4 encItem w15 w.heap.size A0 xs0 := h0_w14.below (b15.mono (by omega))
      have h1_w15 : RdE 2 encTomb w15 w.heap.size A1 xs1 := h1_w14.below (b15.mono (by omega))
      have lo15 := lo6
      have hi15 := hi6
      go_wp2_with fail
      refine (heldItemS_any _ _ _ _ _ _ (Own.rd o15) (by omega) (by omega) (by omega) (by omega)).mono ?_
      rintro e w16 ⟨rfl, b16⟩
      have o3_w16 : OwnE 4 encItem 34 w16 w2.heap.size R3 rc3 (liveOf xs0 xs1 a2) := Own.below o3_w15 b16
      have o15_w16 := Own.below o15 b16
      have z_w16 : w15.heap.size ≤ w16.heap.size := b16.size
      have c_w16 : Below w.heap.size w w16 := c_w15.trans (b16.mono (by omega))
      have h0_w16 : RdE 4 encItem w16 w.heap.size A0 xs0 := h0_w15.below (b16.mono (by omega))
      have h1_w16 : RdE 2 encTomb w16 w.heap.size A1 xs1 := h1_w15.below (b16.mono (by omega))
      go_wp2_with fail
      refine (toItemS_any _ _ _ xs0 _ h0_w16 (by omega) (by omega)).mono ?_
      rintro e w17 ⟨T17, rfl, o17, b17⟩
      have o3_w17 : OwnE 4 encItem 34 w17 w2.heap.size R3 rc3 (liveOf xs0 xs1 a2) := Own.below o3_w16 b17
      have o15_w17 := Own.below o15_w16 b17
      have z_w17 : w16.heap.size ≤ w17.heap.size := b17.size
      have c_w17 : Below w.heap.size w w17 := c_w16.trans (b17.mono (by omega))
      have h0_w17 : RdE 4 encItem w17 w.heap.size A0 xs0 := h0_w16.below (b17.mono (by omega))
      have h1_w17 : RdE 2 encTomb w17 w.heap.size A1 xs1 := h1_w16.below (b17.mono (by omega))
      go_wp2_with fail
      refine (toTombS_any _ _ _ xs1 _ h1_w17 (by omega) (by omega)).mono ?_
      rintro e w18 ⟨T18, rfl, o18, b18⟩
      have o3_w18 : OwnE 4 encItem 34 w18 w2.heap.size R3 rc3 (liveOf xs0 xs1 a2) := Own.below o3_w17 b18
      have o15_w18 := Own.below o15_w17 b18
      have z_w18 : w17.heap.size ≤ w18.heap.size := b18.size
      have c_w18 : Below w.heap.size w w18 := c_w17.trans (b18.mono (by omega))
      have h0_w18 : RdE 4 encItem w18 w.heap.size A0 xs0 := h0_w17.below (b18.mono (by omega))
      have h1_w18 : RdE 2 encTomb w18 w.heap.size A1 xs1 := h1_w17.below (b18.mono (by omega))
      have r17_w18 : RdE 4 encItem w18 w17.heap.size T17 xs0 := (OwnE.rd o17).below (b18.mono (by omega))
      go_wp2_with fail
      refine (implLiveItems_any _ _ _ _ w18.heap.size xs0 xs1 a2 _ (RdE.more r17_w18 (by omega)) (RdE.more (OwnE.rd o18) (by omega)) (by omega) (by omega) (by omega) (Nat.le_refl _) (Nat.le_refl _) HSZ0.out HSZ1.out).mono ?_
      rintro e w19 ⟨R19, rc19, rfl, o19, b19⟩
      have o3_w19 : OwnE 4 encItem 34 w19 w2.heap.size R3 rc3 (liveOf xs0 xs1 a2) := Own.below o3_w18 b19
      have o15_w19 := Own.below o15_w18 b19
      have z_w19 : w18.heap.size ≤ w19.heap.size := b19.size
      have c_w19 : Below w.heap.size w w19 := c_w18.trans (b19.mono (by omega))
      have h0_w19 : RdE 4 encItem w19 w.heap.size A0 xs0 := h0_w18.below (b19.mono (by omega))
      have h1_w19 : RdE 2 encTomb w19 w.heap.size A1 xs1 := h1_w18.below (b19.mono (by omega))
      have r17_w19 : RdE 4 encItem w19 w17.heap.size T17 xs0 := r17_w18.below (b19.mono (by omega))
      have r18_w19 : RdE 2 encTomb w19 w18.heap.size T18 xs1 := (OwnE.rd o18).below (b19.mono (by omega))
      have lo19 : ∀ b, blk R19 = some b → w18.heap.size ≤ b := fun b hb => (Own.lt o19 hb).1
      have hi19 : ∀ b, blk R19 = some b → b < w19.heap.size := fun b hb => (Own.lt o19 hb).2
      go_wp2_with fail
      refine (eqItemS_any _ _ _ _ _ _ _ _ (RdE.more (OwnE.rd o19) (by omega : _ ≤ w19.heap.size)) (RdE.more (OwnE.rd o3_w19) (by omega)) (by omega) (by omega) (by omega)).mono ?_
      rintro e w20 ⟨rfl, b20⟩
      have o3_w20 : OwnE 4 encItem 34 w20 w2.heap.size R3 rc3 (liveOf xs0 xs1 a2) := Own.below o3_w19 b20
      have o15_w20 := Own.below o15_w19 b20
      have o19_w20 : OwnE 4 encItem 34 w20 w18.heap.size R19 rc19 (liveOf xs0 xs1 a2) := Own.below o19 b20
      have z_w20 : w19.heap.size ≤ w20.heap.size := b20.size
      have c_w20 : Below w.heap.size w w20 := c_w19.trans (b20.mono (by omega))
      have h0_w20 : RdE 4 encItem w20 w.heap.size A0 xs0 := h0_w19.below (b20.mono (by omega))
      have h1_w20 : RdE 2 encTomb w20 w.heap.size A1 xs1 := h1_w19.below (b20.mono (by omega))
      go_wp2_with fail
      refine (heldItemS_any _ _ _ _ _ _ (Own.rd o15_w20) (by omega) (by omega) (by omega) (by omega)).mono ?_
      rintro e w21 ⟨rfl, b21⟩
      have o3_w21 : OwnE 4 encItem 34 w21 w2.heap.size R3 rc3 (liveOf xs0 xs1 a2) := Own.below o3_w20 b21
      have o15_w21 := Own.below o15_w20 b21
      have o19_w21 : OwnE 4 encItem 34 w21 w18.heap.size R19 rc19 (liveOf xs0 xs1 a2) := Own.below o19_w20 b21
      have z_w21 : w20.heap.size ≤ w21.heap.size := b21.size
      have c_w21 : Below w.heap.size w w21 := c_w20.trans (b21.mono (by omega))
      have h0_w21 : RdE 4 encItem w21 w.heap.size A0 xs0 := h0_w20.below (b21.mono (by omega))
      have h1_w21 : RdE 2 encTomb w21 w.heap.size A1 xs1 := h1_w20.below (b21.mono (by omega))
      go_wp2_with fail
      go_ret
      exact ⟨rfl, c_w21⟩
    · have y1 : szL (1048576 - (totItem xs0 : Int)) (totTomb xs1) = -1 := szL_no (by omega)
      go_enter Try.func4, Try.ntmps4
      go_wp2_with fail
      refine (szItemS_any A0 cap0 w.heap.size xs0 _ _ (h0.below ((Below.refl w.heap.size w).mono (Nat.le_refl _))) (Below.refl w.heap.size w).size (by omega) HSZ0.out (by omega) (by omega)).mono ?_
      rintro e u0 ⟨rfl, bu0⟩
      have cu0 := (Below.refl w.heap.size w).trans (bu0.mono (Below.refl w.heap.size w).size)
      go_wp2_with fail
      refine (szTombS_any A1 cap1 w.heap.size xs1 _ _ (h1.below (cu0.mono (Nat.le_refl _))) cu0.size (by omega) HSZ1.out (by omega) (by omega)).mono ?_
      rintro e u1 ⟨rfl, bu1⟩
      have cu1 := cu0.trans (bu1.mono cu0.size)
      go_wp2_with fail
      go_ret
      exact ⟨rfl, cu1⟩
  · have y0 : szL (1048576) (totItem xs0) = -1 := szL_no (by omega)
    go_enter Try.func4, Try.ntmps4
    go_wp2_with fail
    refine (szItemS_any A0 cap0 w.heap.size xs0 _ _ (h0.below ((Below.refl w.heap.size w).mono (Nat.le_refl _))) (Below.refl w.heap.size w).size (by omega) HSZ0.out (by omega) (by omega)).mono ?_
    rintro e u0 ⟨rfl, bu0⟩
    have cu0 := (Below.refl w.heap.size w).trans (bu0.mono (Below.refl w.heap.size w).size)
    go_wp2_with fail
    go_ret
    exact ⟨rfl, cu0⟩
end Go.Proofs.Ytnplpllhochlfaa
