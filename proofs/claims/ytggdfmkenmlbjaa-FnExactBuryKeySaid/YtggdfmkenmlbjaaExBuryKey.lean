import Derived.Test.YtggdfmkenmlbjaaTombC
import Derived.Test.YtggdfmkenmlbjaaTombD
import Derived.Test.YtggdfmkenmlbjaaOpenTomb
namespace Go.Proofs.Ytggdfmkenmlbjaa
open Go.RowKit
set_option maxHeartbeats 400000 in
theorem FnExactBuryKey_walk (A0 : Option Addr) (cap0 : Nat) (xs0 : List ElTomb) (s1 : ByteArray) (a2 : Int) (w : World) (h0 : RdE 2 encTomb w w.heap.size A0 xs0) (hc0 : xs0.length ≤ cap0) (hm0 : cap0 ≤ maxLen) (_wf0 : ∀ x ∈ xs0, okwTomb x) (hs1 : s1.size ≤ maxLen) (_ : (Lit.int .i64 a2).wf = true) :
    Calls Try.prog 8 #[.slice A0 xs0.length cap0, .string s1, .int .i64 a2] w fun e w' => e = .returned (.bool true) ∧ Below w.heap.size w w' := by
  unfold maxLen at hm0
  have hsz0 : ∀ k, k < xs0.length → (gt xs0 k).1.size ≤ maxLen := fun k hk => okwszTomb (_wf0 _ (gt_mem hk))
  have HSZ0 := Lib.hid hsz0
  clear hsz0
  by_cases hz1 : s1.size ≤ 1048576
  · have dz1 : decide (1048576 < (s1.size : Int)) = false := decide_eq_false (by omega)
    by_cases hz0 : (totTomb xs0 : Int) ≤ 1048576
    · have y0 : szL (1048576) (totTomb xs0) = 1048576 - (totTomb xs0 : Int) := szL_yes hz0
      have yl0 : xs0.length ≤ totTomb xs0 := by unfold totTomb; omega
      have d0 : decide (1048576 - (totTomb xs0 : Int) < 0) = false := decide_eq_false (by omega)
      have hR := buryOf_len xs0 s1 a2
      have hselfR := sameB_self (buryOf xs0 s1 a2)
      have self0 := sameB_self xs0
      go_enter Try.func8, Try.ntmps8
      go_wp2_with fail
      refine (szTombS_any A0 cap0 w.heap.size xs0 _ _ h0 (Nat.le_refl _) (by omega) HSZ0.out (by omega) (by omega)).mono ?_
      rintro e v0 ⟨rfl, bz0⟩
      have z_v0 : w.heap.size ≤ v0.heap.size := bz0.size
      have c_v0 : Below w.heap.size w v0 := bz0.mono (by omega)
      have h0_v0 : RdE 2 encTomb v0 w.heap.size A0 xs0 := h0.below (bz0.mono (by omega))
      go_wp2_with fail
      refine (toTombS_any _ _ _ xs0 _ h0_v0 (by omega) (by omega)).mono ?_
      rintro e w1 ⟨T1, rfl, o1, b1⟩
      have z_w1 : v0.heap.size ≤ w1.heap.size := b1.size
      have c_w1 : Below w.heap.size w w1 := c_v0.trans (b1.mono (by omega))
      have h0_w1 : RdE 2 encTomb w1 w.heap.size A0 xs0 := h0_v0.below (b1.mono (by omega))
      go_wp2_with fail
      refine (specBuryKey_any _ _ w1.heap.size xs0 s1 a2 _ (RdE.more (OwnE.rd o1) (by omega)) (by omega) (by omega) HSZ0.out hs1).mono ?_
      rintro e w2 ⟨R2, rc2, rfl, o2, b2⟩
      have z_w2 : w1.heap.size ≤ w2.heap.size := b2.size
      have c_w2 : Below w.heap.size w w2 := c_w1.trans (b2.mono (by omega))
      have h0_w2 : RdE 2 encTomb w2 w.heap.size A0 xs0 := h0_w1.below (b2.mono (by omega))
      have r1_w2 : RdE 2 encTomb w2 w1.heap.size T1 xs0 := (OwnE.rd o1).below (b2.mono (by omega))
      have r2 := SubE.rd o2
      go_wp2_with fail
      refine (toTombS_any _ _ _ xs0 _ h0_w2 (by omega) (by omega)).mono ?_
      rintro e w3 ⟨T3, rfl, o3, b3⟩
      have z_w3 : w2.heap.size ≤ w3.heap.size := b3.size
      have c_w3 : Below w.heap.size w w3 := c_w2.trans (b3.mono (by omega))
      have h0_w3 : RdE 2 encTomb w3 w.heap.size A0 xs0 := h0_w2.below (b3.mono (by omega))
      have o2_w3 : RdE 2 encTomb w3 w2.heap.size R2 (buryOf xs0 s1 a2) := r2.below (b3.mono (by omega))
      have lo3 : ∀ b, blk T3 = some b → w2.heap.size ≤ b := fun b hb => (Own.lt o3 hb).1
      have hi3 : ∀ b, blk T3 = some b → b < w3.heap.size := fun b hb => (Own.lt o3 hb).2
      go_wp2_with fail
      refine (implBuryKey_any _ _ w3.heap.size xs0 s1 a2 _ (RdE.more (OwnE.rd o3) (by omega)) (by omega) (by omega) (Nat.le_refl _) HSZ0.out hs1).mono ?_
      rintro e w4 ⟨R4, rc4, rfl, o4, b4⟩
      have o3_w4 : OwnE 2 encTomb 35 w4 w2.heap.size T3 xs0.length xs0 := Own.below o3 b4
      have z_w4 : w3.heap.size ≤ w4.heap.size := b4.size
      have c_w4 : Below w.heap.size w w4 := c_w3.trans (b4.mono (by omega))
      have h0_w4 : RdE 2 encTomb w4 w.heap.size A0 xs0 := h0_w3.below (b4.mono (by omega))
      have o2_w4 : RdE 2 encTomb w4 w2.heap.size R2 (buryOf xs0 s1 a2) := o2_w3.below (b4.mono (by omega))
      have lo4 : ∀ b, blk R4 = some b → w3.heap.size ≤ b := fun b hb => (Own.lt o4 hb).1
      have hi4 : ∀ b, blk R4 = some b → b < w4.heap.size := fun b hb => (Own.lt o4 hb).2
      go_wp2_with fail
      refine (eqTombS_any _ _ _ _ _ _ _ _ (RdE.more (OwnE.rd o4) (by omega : _ ≤ w4.heap.size)) (RdE.more o2_w4 (by omega)) (by omega) (by omega) (by omega)).mono ?_
      rintro e w5 ⟨rfl, b5⟩
      have o3_w5 : OwnE 2 encTomb 35 w5 w2.heap.size T3 xs0.length xs0 := Own.below o3_w4 b5
      have o4_w5 : OwnE 2 encTomb 35 w5 w3.heap.size R4 rc4 (buryOf xs0 s1 a2) := Own.below o4 b5
      have z_w5 : w4.heap.size ≤ w5.heap.size := b5.size
      have c_w5 : Below w.heap.size w w5 := c_w4.trans (b5.mono (by omega))
      have h0_w5 : RdE 2 encTomb w5 w.heap.size A0 xs0 := h0_w4.below (b5.mono (by omega))
      have o2_w5 : RdE 2 encTomb w5 w2.heap.size R2 (buryOf xs0 s1 a2) := o2_w4.below (b5.mono (by omega))
      go_wp2_with fail
      refine (toTombS_any _ _ _ xs0 _ h0_w5 (by omega) (by omega)).mono ?_
      rintro e w6 ⟨T6, rfl, o6, b6⟩
      have o3_w6 : OwnE 2 encTomb 35 w6 w2.heap.size T3 xs0.length xs0 := Own.below o3_w5 b6
      have o4_w6 : OwnE 2 encTomb 35 w6 w3.heap.size R4 rc4 (buryOf xs0 s1 a2) := Own.below o4_w5 b6
      have z_w6 : w5.heap.size ≤ w6.heap.size := b6.size
      have c_w6 : Below w.heap.size w w6 := c_w5.trans (b6.mono (by omega))
      have h0_w6 : RdE 2 encTomb w6 w.heap.size A0 xs0 := h0_w5.below (b6.mono (by omega))
      have o2_w6 : RdE 2 encTomb w6 w2.heap.size R2 (buryOf xs0 s1 a2) := o2_w5.below (b6.mono (by omega))
      go_wp2_with fail
      refine (eqTombS_any _ _ _ _ _ _ _ _ (RdE.more (OwnE.rd o3_w6) (by omega : _ ≤ w6.heap.size)) (RdE.more (OwnE.rd o6) (by omega)) (by omega) (by omega) (by omega)).mono ?_
      rintro e w7 ⟨rfl, b7⟩
      have o3_w7 : OwnE 2 encTomb 35 w7 w2.heap.size T3 xs0.length xs0 := Own.below o3_w6 b7
      have o4_w7 : OwnE 2 encTomb 35 w7 w3.heap.size R4 rc4 (buryOf xs0 s1 a2) := Own.below o4_w6 b7
      have z_w7 : w6.heap.size ≤ w7.heap.size := b7.size
      have c_w7 : Below w.heap.size w w7 := c_w6.trans (b7.mono (by omega))
      have h0_w7 : RdE 2 encTomb w7 w.heap.size A0 xs0 := h0_w6.below (b7.mono (by omega))
      have o2_w7 : RdE 2 encTomb w7 w2.heap.size R2 (buryOf xs0 s1 a2) := o2_w6.below (b7.mono (by omega))
      have r6_w7 : RdE 2 encTomb w7 w6.heap.size T6 xs0 := (OwnE.rd o6).below (b7.mono (by omega))
      go_wp2_with fail
      refine (markTombS_any _ _ _ _ _ _ _ o3_w7 (by omega) (by omega) (by omega)).mono ?_
      rintro e w8 ⟨rfl, o8, g8⟩
      have b8 := grown_below g8 lo3 (by omega)
      have o4_w8 : OwnE 2 encTomb 35 w8 w3.heap.size R4 rc4 (buryOf xs0 s1 a2) := Own.kept o4_w7 g8 (blk_ne' (B := w3.heap.size) hi3 (fun b hb => by have := lo4 b hb; omega))
      have z_w8 : w7.heap.size ≤ w8.heap.size := b8.size
      have c_w8 : Below w.heap.size w w8 := c_w7.trans (b8.mono (by omega))
      have h0_w8 : RdE 2 encTomb w8 w.heap.size A0 xs0 := h0_w7.below (b8.mono (by omega))
      have o2_w8 : RdE 2 encTomb w8 w2.heap.size R2 (buryOf xs0 s1 a2) := o2_w7.below (b8.mono (by omega))
      have lo8 := lo3
      have hi8 := hi3
      go_wp2_with fail
      refine (eqTombS_any _ _ _ _ _ _ _ _ (RdE.more (OwnE.rd o4_w8) (by omega : _ ≤ w8.heap.size)) (RdE.more o2_w8 (by omega)) (by omega) (by omega) (by omega)).mono ?_
      rintro e w9 ⟨rfl, b9⟩
      have o4_w9 : OwnE 2 encTomb 35 w9 w3.heap.size R4 rc4 (buryOf xs0 s1 a2) := Own.below o4_w8 b9
      have z_w9 : w8.heap.size ≤ w9.heap.size := b9.size
      have c_w9 : Below w.heap.size w w9 := c_w8.trans (b9.mono (by omega))
      have h0_w9 : RdE 2 encTomb w9 w.heap.size A0 xs0 := h0_w8.below (b9.mono (by omega))
      have o2_w9 : RdE 2 encTomb w9 w2.heap.size R2 (buryOf xs0 s1 a2) := o2_w8.below (b9.mono (by omega))
      go_wp2_with fail
      refine (markTombS_any _ _ _ _ _ _ _ o4_w9 (by omega) (by omega) (by omega)).mono ?_
      rintro e w10 ⟨rfl, o10, g10⟩
      have b10 := grown_below g10 lo4 (by omega)
      have z_w10 : w9.heap.size ≤ w10.heap.size := b10.size
      have c_w10 : Below w.heap.size w w10 := c_w9.trans (b10.mono (by omega))
      have h0_w10 : RdE 2 encTomb w10 w.heap.size A0 xs0 := h0_w9.below (b10.mono (by omega))
      have o2_w10 : RdE 2 encTomb w10 w2.heap.size R2 (buryOf xs0 s1 a2) := o2_w9.below (b10.mono (by omega))
      have lo10 := lo4
      have hi10 := hi4
      go_wp2_with fail
      refine (heldTombS_any _ _ _ _ _ _ (Own.rd o10) (by omega) (by omega) (by omega) (by omega)).mono ?_
      rintro e w11 ⟨rfl, b11⟩
      have o10_w11 := Own.below o10 b11
      have z_w11 : w10.heap.size ≤ w11.heap.size := b11.size
      have c_w11 : Below w.heap.size w w11 := c_w10.trans (b11.mono (by omega))
      have h0_w11 : RdE 2 encTomb w11 w.heap.size A0 xs0 := h0_w10.below (b11.mono (by omega))
      have o2_w11 : RdE 2 encTomb w11 w2.heap.size R2 (buryOf xs0 s1 a2) := o2_w10.below (b11.mono (by omega))
      go_wp2_with fail
      refine (toTombS_any _ _ _ xs0 _ h0_w11 (by omega) (by omega)).mono ?_
      rintro e w12 ⟨T12, rfl, o12, b12⟩
      have o10_w12 := Own.below o10_w11 b12
      have z_w12 : w11.heap.size ≤ w12.heap.size := b12.size
      have c_w12 : Below w.heap.size w w12 := c_w11.trans (b12.mono (by omega))
      have h0_w12 : RdE 2 encTomb w12 w.heap.size A0 xs0 := h0_w11.below (b12.mono (by omega))
      have o2_w12 : RdE 2 encTomb w12 w2.heap.size R2 (buryOf xs0 s1 a2) := o2_w11.below (b12.mono (by omega))
      go_wp2_with fail
      refine (implBuryKey_any _ _ w12.heap.size xs0 s1 a2 _ (RdE.more (OwnE.rd o12) (by omega)) (by omega) (by omega) (Nat.le_refl _) HSZ0.out hs1).mono ?_
      rintro e w13 ⟨R13, rc13, rfl, o13, b13⟩
      have o10_w13 := Own.below o10_w12 b13
      have z_w13 : w12.heap.size ≤ w13.heap.size := b13.size
      have c_w13 : Below w.heap.size w w13 := c_w12.trans (b13.mono (by omega))
      have h0_w13 : RdE 2 encTomb w13 w.heap.size A0 xs0 := h0_w12.below (b13.mono (by omega))
      have o2_w13 : RdE 2 encTomb w13 w2.heap.size R2 (buryOf xs0 s1 a2) := o2_w12.below (b13.mono (by omega))
      have r12_w13 : RdE 2 encTomb w13 w12.heap.size T12 xs0 := (OwnE.rd o12).below (b13.mono (by omega))
      have lo13 : ∀ b, blk R13 = some b → w12.heap.size ≤ b := fun b hb => (Own.lt o13 hb).1
      have hi13 : ∀ b, blk R13 = some b → b < w13.heap.size := fun b hb => (Own.lt o13 hb).2
      go_wp2_with fail
      refine (eqTombS_any _ _ _ _ _ _ _ _ (RdE.more (OwnE.rd o13) (by omega : _ ≤ w13.heap.size)) (RdE.more o2_w13 (by omega)) (by omega) (by omega) (by omega)).mono ?_
      rintro e w14 ⟨rfl, b14⟩
      have o10_w14 := Own.below o10_w13 b14
      have o13_w14 : OwnE 2 encTomb 35 w14 w12.heap.size R13 rc13 (buryOf xs0 s1 a2) := Own.below o13 b14
      have z_w14 : w13.heap.size ≤ w14.heap.size := b14.size
      have c_w14 : Below w.heap.size w w14 := c_w13.trans (b14.mono (by omega))
      have h0_w14 : RdE 2 encTomb w14 w.heap.size A0 xs0 := h0_w13.below (b14.mono (by omega))
      have o2_w14 : RdE 2 encTomb w14 w2.heap.size R2 (buryOf xs0 s1 a2) := o2_w13.below (b14.mono (by omega))
      go_wp2_with fail
      refine (heldTombS_any _ _ _ _ _ _ (Own.rd o10_w14) (by omega) (by omega) (by omega) (by omega)).mono ?_
      rintro e w15 ⟨rfl, b15⟩
      have o10_w15 := Own.below o10_w14 b15
      have o13_w15 : OwnE 2 encTomb 35 w15 w12.heap.size R13 rc13 (buryOf xs0 s1 a2) := Own.below o13_w14 b15
      have z_w15 : w14.heap.size ≤ w15.heap.size := b15.size
      have c_w15 : Below w.heap.size w w15 := c_w14.trans (b15.mono (by omega))
      have h0_w15 : RdE 2 encTomb w15 w.heap.size A0 xs0 := h0_w14.below (b15.mono (by omega))
      have o2_w15 : RdE 2 encTomb w15 w2.heap.size R2 (buryOf xs0 s1 a2) := o2_w14.below (b15.mono (by omega))
      go_wp2_with fail
      go_ret
      exact ⟨rfl, c_w15⟩
    · have y0 : szL (1048576) (totTomb xs0) = -1 := szL_no (by omega)
      go_enter Try.func8, Try.ntmps8
      go_wp2_with fail
      refine (szTombS_any A0 cap0 w.heap.size xs0 _ _ (h0.below ((Below.refl w.heap.size w).mono (Nat.le_refl _))) (Below.refl w.heap.size w).size (by omega) HSZ0.out (by omega) (by omega)).mono ?_
      rintro e u0 ⟨rfl, bu0⟩
      have cu0 := (Below.refl w.heap.size w).trans (bu0.mono (Below.refl w.heap.size w).size)
      go_wp2_with fail
      go_ret
      exact ⟨rfl, cu0⟩
  · have dz1 : decide (1048576 < (s1.size : Int)) = true := decide_eq_true (by omega)
    go_enter Try.func8, Try.ntmps8
    go_wp2_with fail
    go_ret
    exact ⟨rfl, Below.refl _ _⟩
end Go.Proofs.Ytggdfmkenmlbjaa
