import Derived.Test.YtdcppbaahoimfaaDrawnFans
import Derived.Test.YtdcppbaahoimfaaFansA
import Derived.Test.YtdcppbaahoimfaaFansB
import Derived.Test.YtdcppbaahoimfaaSameMove
import Derived.Test.YtdcppbaahoimfaaTail
import Derived.Test.YtdcppbaahoimfaaWords
namespace Go.Proofs.Ytdcppbaahoimfaa
open Go.RowKit PP
set_option maxRecDepth 100000 in
set_option maxHeartbeats 1600000 in
theorem FnMoveFans_walk (A : Option Addr) (cap : Nat) (cs : List Int) (w : World) (h : Rd w w.heap.size 1 A cs.length (fun j => .int .u8 (at_ cs j))) (hc : cs.length ≤ cap) (_ : cap ≤ maxLen) (hwf : ∀ n ∈ cs, (Lit.int .u8 n).wf = true) :
    Calls Try.prog 9 #[.slice A cs.length cap] w fun e w' => e = .returned (.bool true) ∧ Below w.heap.size w w' := by
  by_cases hs : cs.length ≤ 1048576
  · have hd : decide (1048576 < (cs.length : Int)) = false := decide_eq_false (by omega)
    have hbyte := Lib.hid (byte_bounds hwf)
    clear hwf
    go_enter Try.func9, Try.ntmps9
    go_wp2_with fail
    refine (DrawMoveFans_any A cap _ cs w h (Nat.le_refl _) hbyte.out hc hs).mono ?_
    rintro e w1 ⟨T, cap', xs, C, capC, fs, rfl, hx, hsz, hf, hsf, hown, hfo, hb1⟩
    have HSZ := Lib.hid hsz
    have HSF := Lib.hid hsf
    clear hsz hsf
    have hs1 := hb1.size
    obtain ⟨R, hR⟩ : ∃ R, mfOf xs fs = R := ⟨_, rfl⟩
    have HR := Lib.hid hR
    have hRl : R.length ≤ fs.length := by rw [← HR.out]; exact mfOf_le _ _
    have HRV : Hid (fvB R = true) := Lib.hid (by rw [← HR.out]; exact mfOf_valid _ _)
    have HSR : Hid (∀ k, k < R.length → (gt R k).1.size ≤ maxLen ∧ (gt R k).2.size ≤ maxLen) := Lib.hid (fun k hk => hv_sz (fv_hv HRV.out hk))
    clear hR
    have hcall := implMoveFans_any T C cap' capC w1.heap.size xs fs w1 (OwnE.rd hown) (OwnE.rd hfo) (Nat.le_refl _) (by omega) (by omega) (capLe_own hown) HSZ.out HSF.out
    rw [HR.out] at hcall
    have HC := Lib.hid hcall
    clear hcall
    go_wp2_with fail
    refine HC.out.mono ?_
    clear HC
    rintro e w2 ⟨T2, c2, rfl, ho2, hb2⟩
    have hs2 := hb2.size
    have hownB := Own.below hown hb2
    have hfoB := Own.below hfo hb2
    have hbB := hb1.trans (hb2.mono hb1.size)
    clear hown hfo hb1 hb2
    have hcall := specMoveFans_any T C cap' capC w2.heap.size xs fs w2 (OwnE.rd hownB) (OwnE.rd hfoB) (Nat.le_refl _) (by omega) (by omega) HSZ.out HSF.out
    rw [HR.out] at hcall
    have HC := Lib.hid hcall
    clear hcall
    go_wp2_with fail
    refine HC.out.mono ?_
    clear HC
    rintro e w3 ⟨T3, c3, rfl, ho3, hb3⟩
    have hs3 := hb3.size
    have hownC := Own.below hownB hb3
    have hfoC := Own.below hfoB hb3
    have ho2C := Own.below ho2 hb3
    have hbC := hbB.trans (hb3.mono hbB.size)
    clear hownB hfoB ho2 hbB hb3
    have hself := sameB_self R
    go_wp2_with fail
    refine (sameHandles_any T2 T3 c2 c3 _ R R w3 (RdE.more (OwnE.rd ho2C) (Nat.le_refl _)) (RdE.more (OwnE.rd ho3) (Nat.le_refl _)) (Nat.le_refl _) (by omega) (by omega)).mono ?_
    rintro e w4 ⟨rfl, hb4⟩
    have hs4 := hb4.size
    have hownD := Own.below hownC hb4
    have hfoD := Own.below hfoC hb4
    have hRD := Own.below ho2C hb4
    have hbD := hbC.trans (hb4.mono hbC.size)
    clear hownC hfoC ho2C ho3 hbC hb4
    by_cases hv : mvB xs = true
    · by_cases hfv : fvB fs = true
      · have HTW : Hid (mfOf xs R = R) := Lib.hid (by have e := mfOf_twice hv hfv; rw [HR.out] at e; exact e)
        have HPOS : Hid (0 < fs.length → 0 < R.length) := Lib.hid (fun h0 => by
          have e := mfTo_pos hv hfv (k := fs.length - 1) (by omega)
          rw [show fs.length - 1 + 1 = fs.length by omega, ← mfOf_yes hv hfv, HR.out] at e
          exact e)
        go_wp2_with fail
        refine (implMovesValid_any _ _ _ xs w4 (OwnE.rd hownD) (Nat.le_refl _) (by omega) (capLe_own hownD) HSZ.out).mono ?_
        rintro e w5 ⟨rfl, hb5⟩
        have hs5 := hb5.size
        have hownE := Own.below hownD hb5
        have hfoE := Own.below hfoD hb5
        have hRE := Own.below hRD hb5
        have hbE := hbD.trans (hb5.mono hbD.size)
        clear hownD hfoD hRD hbD hb5
        go_wp2_with fail
        refine (implFollowersValid_any _ _ _ fs w5 (OwnE.rd hfoE) (Nat.le_refl _) (by omega) HSF.out).mono ?_
        rintro e w6 ⟨rfl, hb6⟩
        have hs6 := hb6.size
        have hownF := Own.below hownE hb6
        have hRF := Own.below hRE hb6
        have hbF := hbE.trans (hb6.mono hbE.size)
        clear hownE hfoE hRE hbE hb6
        have hcallA := implFollowersValid_any T2 c2 w6.heap.size R w6 (OwnE.rd hRF) (Nat.le_refl _) (by omega) HSR.out
        rw [HRV.out] at hcallA
        have HCA := Lib.hid hcallA
        clear hcallA
        have dle : decide ((R.length : Int) ≤ (fs.length : Int)) = true := decide_eq_true (by omega)
        have dleN : decide (R.length ≤ fs.length) = true := decide_eq_true hRl
        by_cases h0 : 0 < fs.length
        · have hp := HPOS.out h0
          have p0 : decide (0 < (fs.length : Int)) = true := decide_eq_true (by omega)
          have p1 : decide (0 < (R.length : Int)) = true := decide_eq_true (by omega)
          have p2 : decide (0 < fs.length) = true := decide_eq_true h0
          have p3 : decide (0 < R.length) = true := decide_eq_true hp
          go_wp2_with fail
          refine HCA.out.mono ?_
          rintro e w7 ⟨rfl, hb7⟩
          have hs7 := hb7.size
          have hownG := Own.below hownF hb7
          have hRG := Own.below hRF hb7
          have hbG := hbF.trans (hb7.mono hbF.size)
          clear hownF hRF hbF hb7 HCA
          have hcall := implMoveFans_any T T2 cap' c2 w7.heap.size xs R w7 (OwnE.rd hownG) (OwnE.rd hRG) (Nat.le_refl _) (by omega) (by omega) (capLe_own hownG) HSZ.out HSR.out
          rw [HTW.out] at hcall
          have HC := Lib.hid hcall
          clear hcall
          go_wp2_with fail
          refine HC.out.mono ?_
          clear HC
          rintro e w8 ⟨T8, c8, rfl, ho8, hb8⟩
          have hRH := Own.below hRG hb8
          have hbH := hbG.trans (hb8.mono hbG.size)
          go_wp2_with fail
          refine (sameHandles_any T8 T2 c8 c2 _ R R w8 (RdE.more (OwnE.rd ho8) (Nat.le_refl _)) (RdE.more (OwnE.rd hRH) (Nat.le_refl _)) (Nat.le_refl _) (by omega) (by omega)).mono ?_
          rintro e w9 ⟨rfl, hb9⟩
          have hbI := hbH.trans (hb9.mono hbH.size)
          go_wp2_with fail
          go_ret
          exact ⟨rfl, hbI⟩
        · have p0 : decide (0 < (fs.length : Int)) = false := decide_eq_false (by omega)
          have p1 : decide (0 < (R.length : Int)) = false := decide_eq_false (by omega)
          have p2 : decide (0 < fs.length) = false := decide_eq_false h0
          have p3 : decide (0 < R.length) = false := decide_eq_false (by omega)
          go_wp2_with fail
          refine HCA.out.mono ?_
          rintro e w7 ⟨rfl, hb7⟩
          have hs7 := hb7.size
          have hownG := Own.below hownF hb7
          have hRG := Own.below hRF hb7
          have hbG := hbF.trans (hb7.mono hbF.size)
          clear hownF hRF hbF hb7 HCA
          have hcall := implMoveFans_any T T2 cap' c2 w7.heap.size xs R w7 (OwnE.rd hownG) (OwnE.rd hRG) (Nat.le_refl _) (by omega) (by omega) (capLe_own hownG) HSZ.out HSR.out
          rw [HTW.out] at hcall
          have HC := Lib.hid hcall
          clear hcall
          go_wp2_with fail
          refine HC.out.mono ?_
          clear HC
          rintro e w8 ⟨T8, c8, rfl, ho8, hb8⟩
          have hRH := Own.below hRG hb8
          have hbH := hbG.trans (hb8.mono hbG.size)
          go_wp2_with fail
          refine (sameHandles_any T8 T2 c8 c2 _ R R w8 (RdE.more (OwnE.rd ho8) (Nat.le_refl _)) (RdE.more (OwnE.rd hRH) (Nat.le_refl _)) (Nat.le_refl _) (by omega) (by omega)).mono ?_
          rintro e w9 ⟨rfl, hb9⟩
          have hbI := hbH.trans (hb9.mono hbH.size)
          go_wp2_with fail
          go_ret
          exact ⟨rfl, hbI⟩
      · have hfv' : fvB fs = false := by simpa using hfv
        obtain rfl : R = [] := by rw [← HR.out]; exact mfOf_no2 hfv'
        clear hfv
        go_wp2_with fail
        refine (implMovesValid_any _ _ _ xs w4 (OwnE.rd hownD) (Nat.le_refl _) (by omega) (capLe_own hownD) HSZ.out).mono ?_
        rintro e w5 ⟨rfl, hb5⟩
        have hs5 := hb5.size
        have hownE := Own.below hownD hb5
        have hfoE := Own.below hfoD hb5
        have hRE := Own.below hRD hb5
        have hbE := hbD.trans (hb5.mono hbD.size)
        clear hownD hfoD hRD hbD hb5
        go_wp2_with fail
        refine (implFollowersValid_any _ _ _ fs w5 (OwnE.rd hfoE) (Nat.le_refl _) (by omega) HSF.out).mono ?_
        rintro e w6 ⟨rfl, hb6⟩
        have hs6 := hb6.size
        have hownF := Own.below hownE hb6
        have hRF := Own.below hRE hb6
        have hbF := hbE.trans (hb6.mono hbE.size)
        clear hownE hfoE hRE hbE hb6
        go_wp2_with (go_at_call 14; refine (alive_any _).mono ?_; rintro e w' ⟨rfl, rfl⟩)
        go_ret
        exact ⟨rfl, hbF⟩
    · have hv' : mvB xs = false := by simpa using hv
      obtain rfl : R = [] := by rw [← HR.out]; exact mfOf_no1 hv'
      clear hv
      go_wp2_with fail
      refine (implMovesValid_any _ _ _ xs w4 (OwnE.rd hownD) (Nat.le_refl _) (by omega) (capLe_own hownD) HSZ.out).mono ?_
      rintro e w5 ⟨rfl, hb5⟩
      have hs5 := hb5.size
      have hownE := Own.below hownD hb5
      have hfoE := Own.below hfoD hb5
      have hRE := Own.below hRD hb5
      have hbE := hbD.trans (hb5.mono hbD.size)
      clear hownD hfoD hRD hbD hb5
      go_wp2_with (go_at_call 14; refine (alive_any _).mono ?_; rintro e w' ⟨rfl, rfl⟩)
      go_ret
      exact ⟨rfl, hbE⟩
  · have hd : decide (1048576 < (cs.length : Int)) = true := decide_eq_true (by omega)
    go_enter Try.func9, Try.ntmps9
    go_wp2
    go_ret
    exact ⟨rfl, Below.refl _ _⟩
end Go.Proofs.Ytdcppbaahoimfaa
