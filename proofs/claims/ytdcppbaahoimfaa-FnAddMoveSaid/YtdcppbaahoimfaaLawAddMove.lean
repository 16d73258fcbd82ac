import Derived.Test.YtdcppbaahoimfaaDrawnMoves
import Derived.Test.YtdcppbaahoimfaaWhereA
import Derived.Test.YtdcppbaahoimfaaAddMoveA
import Derived.Test.YtdcppbaahoimfaaAddMoveB
import Derived.Test.YtdcppbaahoimfaaSameMove
import Derived.Test.YtdcppbaahoimfaaTail
import Derived.Test.YtdcppbaahoimfaaWords
namespace Go.Proofs.Ytdcppbaahoimfaa
open Go.RowKit PP
set_option maxRecDepth 100000 in
set_option maxHeartbeats 3200000 in
theorem FnAddMove_walk (A : Option Addr) (cap : Nat) (cs : List Int) (w : World) (h : Rd w w.heap.size 1 A cs.length (fun j => .int .u8 (at_ cs j))) (hc : cs.length ≤ cap) (_ : cap ≤ maxLen) (hwf : ∀ n ∈ cs, (Lit.int .u8 n).wf = true) :
    Calls Try.prog 7 #[.slice A cs.length cap] w fun e w' => e = .returned (.bool true) ∧ Below w.heap.size w w' := by
  by_cases hs : cs.length ≤ 1048576
  · have hd : decide (1048576 < (cs.length : Int)) = false := decide_eq_false (by omega)
    have hbyte := Lib.hid (byte_bounds hwf)
    clear hwf
    go_enter Try.func7, Try.ntmps7
    go_wp2_with fail
    refine (DrawAddMove_any A cap _ cs w h (Nat.le_refl _) hbyte.out hc hs).mono ?_
    rintro e w1 ⟨T, cap', xs, m, rfl, hx, hsz, hm, hown, hb1⟩
    have HSZ := Lib.hid hsz
    have HM := Lib.hid hm
    clear hsz hm
    have hs1 := hb1.size
    have e0 : (w1.alloc (.cells #[.string m.1.1, .string m.1.2, .string m.2.1, .string m.2.2] 30)).cell? ⟨w1.heap.size, 0, none⟩ = some (Value.string m.1.1) := by rw [World.cell?_alloc_at _ _ _ _ rfl]; rfl
    have e1 : (w1.alloc (.cells #[.string m.1.1, .string m.1.2, .string m.2.1, .string m.2.2] 30)).cell? ⟨w1.heap.size, 1, none⟩ = some (Value.string m.1.2) := by rw [World.cell?_alloc_at _ _ _ _ rfl]; rfl
    have e2 : (w1.alloc (.cells #[.string m.1.1, .string m.1.2, .string m.2.1, .string m.2.2] 30)).cell? ⟨w1.heap.size, 2, none⟩ = some (Value.string m.2.1) := by rw [World.cell?_alloc_at _ _ _ _ rfl]; rfl
    have e3 : (w1.alloc (.cells #[.string m.1.1, .string m.1.2, .string m.2.1, .string m.2.2] 30)).cell? ⟨w1.heap.size, 3, none⟩ = some (Value.string m.2.2) := by rw [World.cell?_alloc_at _ _ _ _ rfl]; rfl
    have hownA := Own.below hown (below_new w1 (.cells #[.string m.1.1, .string m.1.2, .string m.2.1, .string m.2.2] 30))
    have hbA := hb1.alloc hs1 (.cells #[.string m.1.1, .string m.1.2, .string m.2.1, .string m.2.2] 30)
    have hzA : w1.heap.size < (w1.alloc (.cells #[.string m.1.1, .string m.1.2, .string m.2.1, .string m.2.2] 30)).heap.size := by simp
    clear hown hb1
    go_wp2_with fail
    generalize (w1.alloc (.cells #[.string m.1.1, .string m.1.2, .string m.2.1, .string m.2.2] 30)) = wA at *
    have hsA := hbA.size
    refine (implAddMove_any _ _ _ xs m wA (OwnE.rd hownA) (Nat.le_refl _) (by omega) (Own.shp hownA) (capLe_own hownA) HSZ.out HM.out).mono ?_
    rintro e w2 ⟨T2, c2, rfl, ho2, hb2⟩
    have hs2 := hb2.size
    have hl2 := addMOf_len xs m
    have a0 := (hb2.cell (p := ⟨w1.heap.size, 0, none⟩) hzA).trans e0
    have a1 := (hb2.cell (p := ⟨w1.heap.size, 1, none⟩) hzA).trans e1
    have a2 := (hb2.cell (p := ⟨w1.heap.size, 2, none⟩) hzA).trans e2
    have a3 := (hb2.cell (p := ⟨w1.heap.size, 3, none⟩) hzA).trans e3
    have hownB := Own.below hownA hb2
    have hbB := hbA.trans (hb2.mono hbA.size)
    clear e0 e1 e2 e3 hownA
    go_wp2_with fail
    refine (specAddMove_any _ _ _ xs m w2 (OwnE.rd hownB) (Nat.le_refl _) (by omega) HSZ.out HM.out).mono ?_
    rintro e w3 ⟨T3, c3, rfl, ho3, hb3⟩
    have hs3 := hb3.size
    have b0 := cellOn a0 (by show w1.heap.size < _; omega) hb3
    have b1 := cellOn a1 (by show w1.heap.size < _; omega) hb3
    have b2 := cellOn a2 (by show w1.heap.size < _; omega) hb3
    have b3 := cellOn a3 (by show w1.heap.size < _; omega) hb3
    have hownC := Own.below hownB hb3
    have ho2C := Own.below ho2 hb3
    have hbC := hbB.trans (hb3.mono hbB.size)
    clear a0 a1 a2 a3 hownB ho2 hbB hb2
    have hself := sameB_self (addMOf xs m)
    have hbs := bne_self (addMOk xs m)
    go_wp2_with fail
    refine (sameMoves_any T2 T3 c2 c3 _ (addMOf xs m) (addMOf xs m) w3 (RdE.more (OwnE.rd ho2C) (Nat.le_refl _)) (RdE.more (OwnE.rd ho3) (Nat.le_refl _)) (Nat.le_refl _) (by omega) (by omega)).mono ?_
    rintro e w4 ⟨rfl, hb4⟩
    have hs4 := hb4.size
    have d0 := cellOn b0 (by show w1.heap.size < _; omega) hb4
    have d1 := cellOn b1 (by show w1.heap.size < _; omega) hb4
    have d2 := cellOn b2 (by show w1.heap.size < _; omega) hb4
    have d3 := cellOn b3 (by show w1.heap.size < _; omega) hb4
    have hownD := Own.below hownC hb4
    have hoD := Own.below ho2C hb4
    have hbD := hbC.trans (hb4.mono hbC.size)
    clear b0 b1 b2 b3 hownC ho2C ho3 hbC hb3 hb4
    by_cases hok : addMOk xs m = true
    · obtain ⟨hv, hv2⟩ := addMOk_of hok
      have HE := Lib.hid (addMOf_yes hv hv2)
      rw [HE.out] at hoD
      have HO := Lib.hid hok
      have hlx : (xs ++ [m]).length = xs.length + 1 := by simp
      have HSX := Lib.hid (add_szM HSZ.out HM.out)
      have hmv := mv_last hv2
      have HV := Lib.hid hv
      have HV2 := Lib.hid hv2
      have HMV := Lib.hid hmv
      clear hmv hv hv2
      have hXm : OwnE 4 encMove 30 w4 wA.heap.size T2 c2 (addM xs m) := hoD
      have HLX := Lib.hid (addM_len xs m)
      have HSM : Hid (∀ k, k < (addM xs m).length → (gt (addM xs m) k).1.1.size ≤ maxLen ∧ (gt (addM xs m) k).1.2.size ≤ maxLen ∧ (gt (addM xs m) k).2.1.size ≤ maxLen ∧ (gt (addM xs m) k).2.2.size ≤ maxLen) := HSX
      have HLN : Hid ((addMOf xs m).length = (addM xs m).length) := Lib.hid (by rw [HE.out]; rfl)
      obtain ⟨u, v, huv⟩ : ∃ u v, whereOf (addM xs m) m.2 = (u, v) := ⟨_, _, rfl⟩
      have HUV := Lib.hid huv
      clear huv
      have hcall := implWhereIs_any T2 c2 w4.heap.size (addM xs m) m.2 w4 (OwnE.rd hXm) (Nat.le_refl _) (by rw [HLX.out]; omega) (capLe_own hXm) HSM.out HM.out.2.2.1 HM.out.2.2.2
      rw [HUV.out, ← HLN.out] at hcall
      have HC := Lib.hid hcall
      clear hcall hoD hlx
      go_wp2_with fail
      refine HC.out.mono ?_
      clear HC
      rintro e w5 ⟨rfl, hb5⟩
      have hs5 := hb5.size
      have g0 : (w5.alloc (.cells #[.string u, .string v] 28)).cell? ⟨w5.heap.size, 0, none⟩ = some (Value.string u) := by rw [World.cell?_alloc_at _ _ _ _ rfl]; rfl
      have g1 : (w5.alloc (.cells #[.string u, .string v] 28)).cell? ⟨w5.heap.size, 1, none⟩ = some (Value.string v) := by rw [World.cell?_alloc_at _ _ _ _ rfl]; rfl
      have hbN : Below w4.heap.size w4 (w5.alloc (.cells #[.string u, .string v] 28)) := Below.push hb5 _
      have p0 := cellOn d0 (by show w1.heap.size < _; omega) hbN
      have p1 := cellOn d1 (by show w1.heap.size < _; omega) hbN
      have p2 := cellOn d2 (by show w1.heap.size < _; omega) hbN
      have p3 := cellOn d3 (by show w1.heap.size < _; omega) hbN
      have hownE := Own.below hownD hbN
      have hXE := Own.below hXm hbN
      have hbE := hbD.trans (hbN.mono hbD.size)
      have hzE : w5.heap.size < (w5.alloc (.cells #[.string u, .string v] 28)).heap.size := by simp
      clear d0 d1 d2 d3 hownD hXm hbD hbN hb5
      go_wp2_with fail
      generalize (w5.alloc (.cells #[.string u, .string v] 28)) = wE at *
      have hsE := hbE.size
      go_loopw [10] (fun i wr => ∃ k : Nat, k ≤ xs.length ∧ i = .int .i64 k ∧ Below wE.heap.size wE wr) (fun i _ => xs.length - (intOf i).toNat)
      case atStart => exact ⟨0, Nat.zero_le _, rfl, Below.refl _ _⟩
      case round =>
        obtain ⟨k, hk, rfl, hbl⟩ := hrel
        have hsl := hbl.size
        have r0 := cellOn p0 (by show w1.heap.size < _; omega) hbl
        have r1 := cellOn p1 (by show w1.heap.size < _; omega) hbl
        have r2 := cellOn p2 (by show w1.heap.size < _; omega) hbl
        have r3 := cellOn p3 (by show w1.heap.size < _; omega) hbl
        have t0 := cellOn g0 hzE hbl
        have t1 := cellOn g1 hzE hbl
        have hownR := Own.below hownE hbl
        have hXR := Own.below hXE hbl
        have hbwR := hbE.trans (hbl.mono hbE.size)
        have hgd := guard_Handle
        by_cases hlt : k < xs.length
        · rcases hownR.shape with ⟨_, hz, _⟩ | ⟨b, rfl, hbb, hbL, hcp, hmx⟩
          · omega
          · unfold maxLen at hmx
            have hsk := HSZ.out k hlt
            have cc0 : wr.cell? ⟨b, k * 4, none⟩ = some (Value.string (gt xs k).1.1) := by have := Own.cell hownR rfl (j := k * 4 + 0) (by omega); rw [cE_at encMove xs k (by omega)] at this; exact this
            have cc1 : wr.cell? ⟨b, k * 4 + 1, none⟩ = some (Value.string (gt xs k).1.2) := by have := Own.cell hownR rfl (j := k * 4 + 1) (by omega); rw [cE_at encMove xs k (by omega)] at this; exact this
            have cc2 : wr.cell? ⟨b, k * 4 + 2, none⟩ = some (Value.string (gt xs k).2.1) := by have := Own.cell hownR rfl (j := k * 4 + 2) (by omega); rw [cE_at encMove xs k (by omega)] at this; exact this
            have cc3 : wr.cell? ⟨b, k * 4 + 3, none⟩ = some (Value.string (gt xs k).2.2) := by have := Own.cell hownR rfl (j := k * 4 + 3) (by omega); rw [cE_at encMove xs k (by omega)] at this; exact this
            have fr0 := fun (z : Bel wr.heap.size wr) => Bel.cell r0 (by show w1.heap.size < _; omega) z
            have fr1 := fun (z : Bel wr.heap.size wr) => Bel.cell r1 (by show w1.heap.size < _; omega) z
            have fr2 := fun (z : Bel wr.heap.size wr) => Bel.cell r2 (by show w1.heap.size < _; omega) z
            have fr3 := fun (z : Bel wr.heap.size wr) => Bel.cell r3 (by show w1.heap.size < _; omega) z
            have ft0 := fun (z : Bel wr.heap.size wr) => Bel.cell t0 (by show w5.heap.size < _; omega) z
            have ft1 := fun (z : Bel wr.heap.size wr) => Bel.cell t1 (by show w5.heap.size < _; omega) z
            have fc0 := fun (z : Bel wr.heap.size wr) => Bel.cell cc0 hbL z
            have fc1 := fun (z : Bel wr.heap.size wr) => Bel.cell cc1 hbL z
            have fc2 := fun (z : Bel wr.heap.size wr) => Bel.cell cc2 hbL z
            have fc3 := fun (z : Bel wr.heap.size wr) => Bel.cell cc3 hbL z
            obtain ⟨p, q, hpq⟩ : ∃ p q, whereOf xs (gt xs k).1 = (p, q) := ⟨_, _, rfl⟩
            have hcall := fun (z : Bel wr.heap.size wr) => implWhereIs_any (some ⟨b, 0, none⟩) cap' wr.heap.size xs (gt xs k).1 z.u ((OwnE.rd hownR).below z.h) z.h.size (by omega) (capLe_own hownR) HSZ.out hsk.1 hsk.2.1
            rw [hpq] at hcall
            have HC := Lib.hid hcall
            have hq1 := fun w' => eql_Handle p q m.1.1 m.1.2 w'
            clear hcall
            by_cases hfr : (p, q) = m.1
            · have q11 : eqEl (α := ElHandle) (p, q) (m.1.1, m.1.2) = true := eqEl_true hfr
              have q22 : eqEl (α := ElHandle) (u, v) (u, v) = true := eqEl_true rfl
              have hnq := fun w' => neq_Handle u v u v w'
              have hwk : whereOf (addM xs m) (gt xs k).1 = (u, v) := (where_lead HV.out HV2.out (mv_ok HV.out hlt).1 (hpq.trans hfr)).trans HUV.out
              have hcall2 := fun (z : Bel wr.heap.size wr) => implWhereIs_any T2 c2 wr.heap.size (addM xs m) (gt xs k).1 z.u ((OwnE.rd hXR).below z.h) z.h.size (by rw [HLX.out]; omega) (capLe_own hXR) HSM.out hsk.1 hsk.2.1
              rw [hwk, ← HLN.out] at hcall2
              have HC2 := Lib.hid hcall2
              clear hcall2 hwk hfr hpq
              go_wp2_with fail
              refine wp_region_bel wr.heap.size (by kernel_rfl) (by kernel_rfl) ?_
              iterate 7 (go_big_quiet_step ((go_at_call 19; exact Calls.bel (Nat.le_refl _) (HC.out _))))
              repeat (go_big_quiet_step (first | (go_at_call 19; exact Calls.bel (Nat.le_refl _) (HC2.out _))))
              refine wpQuiet_nil ?_
              intro _ hw'
              obtain ⟨z, hw''⟩ := hw'
              subst hw''
              have hzh := z.h
              have hbX := hbl.trans (hzh.mono (by omega))
              generalize z.u = wX at *
              go_wp2_with fail
              go_roundw
              case rel => exact ⟨k + 1, by omega, by go_num, hbX⟩
              case measure => simp [intOf]; omega
            · have q11 : eqEl (α := ElHandle) (p, q) (m.1.1, m.1.2) = false := eqEl_false hfr
              clear hfr hpq
              go_wp2_with fail
              refine wp_region_bel wr.heap.size (by kernel_rfl) (by kernel_rfl) ?_
              repeat (go_big_quiet_step (first | (go_at_call 19; exact Calls.bel (Nat.le_refl _) (HC.out _))))
              refine wpQuiet_nil ?_
              intro _ hw'
              obtain ⟨z, hw''⟩ := hw'
              subst hw''
              have hzh := z.h
              have hbX := hbl.trans (hzh.mono (by omega))
              generalize z.u = wX at *
              go_wp2_with fail
              go_roundw
              case rel => exact ⟨k + 1, by omega, by go_num, hbX⟩
              case measure => simp [intOf]; omega
        · obtain rfl : k = xs.length := by omega
          have fr0 := fun (z : Bel wr.heap.size wr) => Bel.cell r0 (by show w1.heap.size < _; omega) z
          have fr1 := fun (z : Bel wr.heap.size wr) => Bel.cell r1 (by show w1.heap.size < _; omega) z
          have ft0 := fun (z : Bel wr.heap.size wr) => Bel.cell t0 (by show w5.heap.size < _; omega) z
          have ft1 := fun (z : Bel wr.heap.size wr) => Bel.cell t1 (by show w5.heap.size < _; omega) z
          have hq3 := fun w' => eql_Handle u v u v w'
          have q33 : eqEl (α := ElHandle) (u, v) (u, v) = true := eqEl_true rfl
          have hw1 : whereOf (addM xs m) m.1 = (u, v) := (where_last HV2.out).trans HUV.out
          have hcall := fun (z : Bel wr.heap.size wr) => implWhereIs_any T2 c2 wr.heap.size (addM xs m) m.1 z.u ((OwnE.rd hXR).below z.h) z.h.size (by rw [HLX.out]; omega) (capLe_own hXR) HSM.out HM.out.1 HM.out.2.1
          rw [hw1, ← HLN.out] at hcall
          have HC := Lib.hid hcall
          have hcall2 := fun (z : Bel wr.heap.size wr) => implMovesValid_any T2 c2 wr.heap.size (addM xs m) z.u ((OwnE.rd hXR).below z.h) z.h.size (by rw [HLX.out]; omega) (capLe_own hXR) HSM.out
          rw [show mvB (addM xs m) = true from HV2.out, ← HLN.out] at hcall2
          have HC2 := Lib.hid hcall2
          clear hcall hcall2 hw1
          go_wp2_with fail
          refine wp_region_bel wr.heap.size (by kernel_rfl) (by kernel_rfl) ?_
          repeat (go_big_quiet_step (first | (go_at_call 19; exact Calls.bel (Nat.le_refl _) (HC.out _)) | (go_at_call 12; exact Calls.bel (Nat.le_refl _) (HC2.out _))))
          refine wpQuiet_nil ?_
          intro _ hw'
          obtain ⟨z, hw''⟩ := hw'
          subst hw''
          have hzh := z.h
          have hbX := hbwR.trans (hzh.mono (by omega))
          generalize z.u = wX at *
          go_wp2_with fail
          go_ret
          exact ⟨rfl, hbX⟩
    · have hok' : addMOk xs m = false := by simpa using hok
      clear hok
      by_cases hv : mvB xs = true
      · have he : addMOf xs m = xs := by
          cases h2 : mvB (xs ++ [m])
          · exact addMOf_no hv h2
          · rw [addMOk_yes hv h2] at hok'; cases hok'
        rw [he] at hoD
        have HE := Lib.hid he
        have hsx := sameB_self xs
        have hlenA : (addMOf xs m).length = xs.length := by rw [HE.out]
        clear he
        have hcall := sameMoves_any T2 T c2 cap' _ xs xs w4 (RdE.more (OwnE.rd hoD) (Nat.le_refl _)) (RdE.more (OwnE.rd hownD) (Nat.le_refl _)) (Nat.le_refl _) (by omega) (by omega)
        rw [hsx] at hcall
        have HC := Lib.hid hcall
        have HLN := Lib.hid hlenA
        clear hcall hlenA hsx
        go_wp2_with fail
        rw [HLN.out]
        refine HC.out.mono ?_
        rintro e w5 ⟨rfl, hb5⟩
        go_wp2_with (go_at_call 14; refine (alive_any _).mono ?_; rintro e w' ⟨rfl, rfl⟩)
        go_ret
        exact ⟨rfl, hbD.trans (hb5.mono hbD.size)⟩
      · have hv' : mvB xs = false := by simpa using hv
        have he := addMOf_bad (m := m) hv'
        have hl0 : (addMOf xs m).length = 0 := by rw [he]; rfl
        have hl00 : (((addMOf xs m).length : Int) == 0) = true := beq_iff_eq.2 (by omega)
        rw [he] at hoD
        have HE := Lib.hid he
        clear he
        have hcall := sameMoves_any T2 T c2 cap' _ [] xs w4 (RdE.more (OwnE.rd hoD) (Nat.le_refl _)) (RdE.more (OwnE.rd hownD) (Nat.le_refl _)) (Nat.le_refl _) (by simp) (by omega)
        rw [show ([] : List ElMove).length = (addMOf xs m).length from hl0.symm] at hcall
        have HC := Lib.hid hcall
        clear hcall hl0 hv
        cases hsm : sameB [] xs
        · rw [hsm] at HC
          go_wp2_with fail
          refine HC.out.mono ?_
          rintro e w5 ⟨rfl, hb5⟩
          go_wp2_with (go_at_call 14; refine (alive_any _).mono ?_; rintro e w' ⟨rfl, rfl⟩)
          go_ret
          exact ⟨rfl, hbD.trans (hb5.mono hbD.size)⟩
        · rw [hsm] at HC
          go_wp2_with fail
          refine HC.out.mono ?_
          rintro e w5 ⟨rfl, hb5⟩
          go_wp2_with (go_at_call 14; refine (alive_any _).mono ?_; rintro e w' ⟨rfl, rfl⟩)
          go_ret
          exact ⟨rfl, hbD.trans (hb5.mono hbD.size)⟩
  · have hd : decide (1048576 < (cs.length : Int)) = true := decide_eq_true (by omega)
    go_enter Try.func7, Try.ntmps7
    go_wp2
    go_ret
    exact ⟨rfl, Below.refl _ _⟩
end Go.Proofs.Ytdcppbaahoimfaa
