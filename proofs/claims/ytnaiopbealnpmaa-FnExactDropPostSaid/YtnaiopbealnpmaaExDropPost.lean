import Derived.Test.YtnaiopbealnpmaaDrop
namespace Go.Proofs.Ytnaiopbealnpmaa
open Go.RowKit PP
theorem FnExactDropPost_walk (A : Option Addr) (cap : Nat) (xs : List Int) (a : Int) (w : World) (h : RdI w w.heap.size A xs) (_ : xs.length ≤ cap) (_ : cap ≤ maxLen) (_ : ∀ n ∈ xs, (Lit.int .i64 n).wf = true) (_ : (Lit.int .i64 a).wf = true) :
    Calls Try.prog 8 #[.slice A xs.length cap, .int .i64 a] w fun e w' => e = .returned (.bool true) ∧ Below w.heap.size w w' := by
  by_cases hs : xs.length ≤ 1048576
  · have hl : xs.length ≤ 140737488351232 := by omega
    have hR := dropOf_len xs a
    have hR2 : (dropOf xs a).length ≤ 140737488351232 := by omega
    have hself := eqB_self xs
    have hself2 := eqB_self (dropOf xs a)
    have hok := bne_self (dropOk xs a)
    have hd : decide (1048576 < (xs.length : Int)) = false := by simp; omega
    have hk1 : decide (1 + (xs.length : Int) < 0) = false := by simp; omega
    have hk2 : decide (1 + ((dropOf xs a).length : Int) < 0) = false := by simp; omega
    go_enter Try.func8, Try.ntmps8
    go_wp2_with fail
    refine (toIntS_new _ _ _ xs _ h (Nat.le_refl _) hs).mono ?_
    rintro e w1 ⟨A1, rfl, hr1, hb1⟩
    have k1 := h.below hb1
    have z1 := hb1.size
    go_wp2_with fail
    refine (specDropPost_any _ _ xs a _ _ hr1 (Nat.le_refl _) hl).mono ?_
    rintro e w2 ⟨A2, cap2, rfl, ho2, hb2⟩
    have k2 := k1.below (hb2.mono z1)
    have z2 := hb2.size
    have c2 : Below w.heap.size w w2 := hb1.trans (hb2.mono z1)
    go_wp2_with fail
    refine (toIntS_own _ _ _ xs _ k2 (by omega) hs).mono ?_
    rintro e w3 ⟨A3, rfl, ho3, hb3⟩
    have k3 := k2.below (hb3.mono (by omega))
    have z3 := hb3.size
    have c3 : Below w.heap.size w w3 := c2.trans (hb3.mono (by omega))
    have ho2_3 : OwnI w3 w1.heap.size A2 cap2 (dropOf xs a) := Own.below ho2 hb3
    have lt2 : ∀ b, blk A2 = some b → b < w2.heap.size := fun b hb => (ho2.lt hb).2
    go_wp2_with fail
    refine (implDropPost_any _ _ xs a _ _ ho3.rd (Nat.le_refl _) hl).mono ?_
    rintro e w4 ⟨A4, cap4, rfl, ho4, hb4⟩
    have k4 := k3.below (hb4.mono (by omega))
    have z4 := hb4.size
    have c4 : Below w.heap.size w w4 := c3.trans (hb4.mono (by omega))
    have ho2_4 : OwnI w4 w1.heap.size A2 cap2 (dropOf xs a) := Own.below ho2_3 hb4
    have ho3_4 : OwnI w4 w2.heap.size A3 xs.length xs := Own.below ho3 hb4
    have lt3 : ∀ b, blk A3 = some b → b < w3.heap.size := fun b hb => (ho3.lt hb).2
    go_wp2_with fail
    refine (eqIntS_any _ _ _ _ _ _ _ _ ho4.rd ho2_4.rd hR2 hR2).mono ?_
    rintro e w5 ⟨rfl, n5, rfl⟩
    go_wp2_with fail
    refine (toIntS_new _ _ _ xs _ (Rd.drewN k4 n5) (by simp; omega) hs).mono ?_
    rintro e w6 ⟨A6, rfl, hr6, hb6⟩
    have k6 := (Rd.drewN k4 n5).below (hb6.mono (by simp; omega))
    have z6 : w4.heap.size ≤ w6.heap.size := hb6.size
    have c6 : Below w.heap.size w w6 := (below_drewN c4 n5).trans (hb6.mono (by simp; omega))
    have ho2_6 : OwnI w6 w1.heap.size A2 cap2 (dropOf xs a) := Own.below (Own.drewN ho2_4 n5) hb6
    have ho3_6 : OwnI w6 w2.heap.size A3 xs.length xs := Own.below (Own.drewN ho3_4 n5) hb6
    have ho4_6 : OwnI w6 w3.heap.size A4 cap4 (dropOf xs a) := Own.below (Own.drewN ho4 n5) hb6
    have lt4 : ∀ b, blk A4 = some b → b < w4.heap.size := fun b hb => (ho4.lt hb).2
    go_wp2_with fail
    refine (eqIntS_any _ _ _ _ _ _ _ _ ho3_6.rd hr6 hl hl).mono ?_
    rintro e w7 ⟨rfl, n7, rfl⟩
    go_wp2_with fail
    refine (markIntS_any _ _ _ _ _ _ _ (Own.drewN ho3_6 n7) hs (by omega) (by omega)).mono ?_
    rintro e w8 ⟨rfl, ho3_8, hg8⟩
    have hb8 : Below w2.heap.size (w6.drewN n7) w8 := grown_below hg8 (fun b hb => (ho3_6.lt hb).1) (by simp; omega)
    have k8 : RdI w8 w.heap.size A xs := (Rd.drewN k6 n7).below (hb8.mono (by omega))
    have z8 : w6.heap.size ≤ w8.heap.size := hb8.size
    have c8 : Below w.heap.size w w8 := (below_drewN c6 n7).trans (hb8.mono (by omega))
    have ho2_8 : OwnI w8 w1.heap.size A2 cap2 (dropOf xs a) := Own.belowB (Own.drewN ho2_6 n7) hb8 lt2
    have ho4_8 : OwnI w8 w3.heap.size A4 cap4 (dropOf xs a) := Own.kept (Own.drewN ho4_6 n7) hg8 (blk_ne' lt3 (fun b hb => (ho4.lt hb).1))
    go_wp2_with fail
    refine (eqIntS_any _ _ _ _ _ _ _ _ ho4_8.rd ho2_8.rd hR2 hR2).mono ?_
    rintro e w9 ⟨rfl, n9, rfl⟩
    have lt4_8 : ∀ b, blk A4 = some b → w3.heap.size ≤ b := fun b hb => (ho4.lt hb).1
    go_wp2_with fail
    refine (markIntS_any _ _ _ _ _ _ _ (Own.drewN ho4_8 n9) hR (by omega) (by omega)).mono ?_
    rintro e w10 ⟨rfl, ho4_10, hg10⟩
    have hb10 : Below w3.heap.size (w8.drewN n9) w10 := grown_below hg10 lt4_8 (by simp; omega)
    have k10 : RdI w10 w.heap.size A xs := (Rd.drewN k8 n9).below (hb10.mono (by omega))
    have z10 : w8.heap.size ≤ w10.heap.size := hb10.size
    have c10 : Below w.heap.size w w10 := (below_drewN c8 n9).trans (hb10.mono (by omega))
    have ho2_10 : OwnI w10 w1.heap.size A2 cap2 (dropOf xs a) := Own.belowB (Own.drewN ho2_8 n9) hb10 (fun b hb => Nat.lt_of_lt_of_le (lt2 b hb) z3)
    go_wp2_with fail
    refine (heldIntS_any _ _ _ _ _ _ ho4_10.rd hR (by omega) (by omega)).mono ?_
    rintro e w' ⟨rfl, rfl⟩
    go_wp2_with fail
    refine (toIntS_own _ _ _ xs _ k10 (by omega) hs).mono ?_
    rintro e w11 ⟨A11, rfl, ho11, hb11⟩
    have z11 := hb11.size
    have c11 : Below w.heap.size w w11 := c10.trans (hb11.mono (by omega))
    have ho2_11 : OwnI w11 w1.heap.size A2 cap2 (dropOf xs a) := Own.below ho2_10 hb11
    have ho4_11 := Own.below ho4_10 hb11
    go_wp2_with fail
    refine (implDropPost_any _ _ xs a _ _ ho11.rd (Nat.le_refl _) hl).mono ?_
    rintro e w12 ⟨A12, cap12, rfl, ho12, hb12⟩
    have z12 := hb12.size
    have c12 : Below w.heap.size w w12 := c11.trans (hb12.mono (by omega))
    have ho2_12 : OwnI w12 w1.heap.size A2 cap2 (dropOf xs a) := Own.below ho2_11 hb12
    have ho4_12 := Own.below ho4_11 hb12
    go_wp2_with fail
    refine (eqIntS_any _ _ _ _ _ _ _ _ ho12.rd ho2_12.rd hR2 hR2).mono ?_
    rintro e w13 ⟨rfl, n13, rfl⟩
    go_wp2_with fail
    refine (heldIntS_any _ _ _ _ _ _ (Rd.drewN ho4_12.rd n13) hR (by omega) (by omega)).mono ?_
    rintro e w' ⟨rfl, rfl⟩
    go_wp2_with fail
    go_ret
    exact ⟨rfl, below_drewN c12 n13⟩
  · have hd : decide (1048576 < (xs.length : Int)) = true := by simp; omega
    go_enter Try.func8, Try.ntmps8
    go_wp2
    go_ret
    exact ⟨rfl, Below.refl _ _⟩
end Go.Proofs.Ytnaiopbealnpmaa
