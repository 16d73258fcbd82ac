import Derived.Test.YtdcppbaahoimfaaFollowA
import Derived.Test.YtdcppbaahoimfaaListsHandle
import Derived.StillTailTactics
namespace Go.Proofs.Ytdcppbaahoimfaa
open Go.RowKit
set_option maxHeartbeats 800000 in
theorem implFollow_any (A : Option Addr) (cap B : Nat) (ps : List ElHandle) (p : ElHandle) (w : World) (h : RdE 2 encHandle w B A ps) (hB : B ≤ w.heap.size) (hl : ps.length ≤ 140737488351232) (hS : Shp A ps.length cap) (hsz : ∀ k, k < ps.length → (gt ps k).1.size ≤ maxLen ∧ (gt ps k).2.size ≤ maxLen) (hp : p.1.size ≤ maxLen ∧ p.2.size ≤ maxLen) :
    Calls Try.prog 57 #[.slice A ps.length cap, .agg #[.string p.1, .string p.2]] w fun e w' => ∃ T' cap', e = .returned (.tuple #[.slice T' (folOf ps p).length cap', .bool (folOk ps p)]) ∧ OwnE 2 encHandle 28 w' w.heap.size T' cap' (folOf ps p) ∧ Below w.heap.size w w' := by
  have HSZ := Lib.hid hsz
  have HSI := Lib.hid (insF_sz hsz hp)
  clear hsz hp
  have hbA : Below w.heap.size w (w.alloc (.cells #[.string p.1, .string p.2] 28)) := (Below.refl _ _).alloc (Nat.le_refl _) _
  have hpA0 : (w.alloc (.cells #[.string p.1, .string p.2] 28)).cell? ⟨w.heap.size, 0, none⟩ = some (.string p.1) := by rw [World.cell?_alloc_at _ _ _ _ rfl]; rfl
  have hpA1 : (w.alloc (.cells #[.string p.1, .string p.2] 28)).cell? ⟨w.heap.size, 1, none⟩ = some (.string p.2) := by rw [World.cell?_alloc_at _ _ _ _ rfl]; rfl
  have hzA : (w.alloc (.cells #[.string p.1, .string p.2] 28)).heap.size = w.heap.size + 1 := by simp
  by_cases hv : fvB ps = true
  · have h10 := (Fv.of hv).1
    go_enter Try.func57, Try.ntmps57
    go_wp2_with fail
    have HZ := Lib.hid hzA; clear hzA
    generalize (w.alloc (.cells #[.string p.1, .string p.2] 28)) = wA at *
    refine (implFollowersValid_any _ _ B ps wA (h.below (hbA.mono hB)) (Nat.le_trans hB hbA.size) hl HSZ.out).mono ?_
    rintro e w1 ⟨rfl, hb1⟩
    have hb1' : Below (w.heap.size + 1) wA w1 := hb1.mono (by rw [HZ.out]; exact Nat.le_refl _)
    have hsA : w.heap.size + 1 ≤ wA.heap.size := by rw [HZ.out]; exact Nat.le_refl _
    go_wp2_with fail
    go_loopw [6] (fun i wr => ∃ k : Nat, k ≤ ps.length ∧ Hid (∀ j, j < k → hbB (gt ps j) p = true) ∧ i = .int .i64 k ∧ Below (w.heap.size + 1) wA wr) (fun i _ => ps.length - (intOf i).toNat)
    case atStart => exact ⟨0, Nat.zero_le _, Lib.hid (fun j hj => absurd hj (by omega)), rfl, hb1'⟩
    case round =>
      clear hb1 hb1'
      obtain ⟨k, hk, hbe, rfl, hbl⟩ := hrel
      have hsz := hbl.size
      have q0 : wr.cell? ⟨w.heap.size, 0, none⟩ = some (.string p.1) := (hbl.cell (p := ⟨w.heap.size, 0, none⟩) (by show w.heap.size < w.heap.size + 1; omega)).trans hpA0
      have q1 : wr.cell? ⟨w.heap.size, 1, none⟩ = some (.string p.2) := (hbl.cell (p := ⟨w.heap.size, 1, none⟩) (by show w.heap.size < w.heap.size + 1; omega)).trans hpA1
      have hrr : RdE 2 encHandle wr B A ps := (h.below (hbA.mono hB)).below (hbl.mono (by omega))
      have hbw : Below w.heap.size w wr := hbA.trans (hbl.mono (by omega))
      by_cases hgo : k < ps.length ∧ hbB (gt ps k) p = true
      · obtain ⟨hlt, hbf⟩ := hgo
        obtain ⟨b, off, rfl, hb, hc⟩ := hrr.at_ (by omega)
        have c0 : wr.cell? ⟨b, off + k * 2, none⟩ = some (Value.string ((gt ps k).1)) := hc k 0 (by omega) (by omega)
        have c1 : wr.cell? ⟨b, off + k * 2 + 1, none⟩ = some (Value.string ((gt ps k).2)) := hc k 1 (by omega) (by omega)
        have hlt2 : decide ((k : Int) < (ps.length : Int)) = true := by simp [hlt]
        have hlt3 : decide (k < ps.length) = true := by simp [hlt]
        have hbf' : hbB ((gt ps k).1, (gt ps k).2) (p.1, p.2) = true := hbf
        have HN := Lib.hid (fun j (hj : j < k + 1) => by
          rcases Nat.lt_succ_iff_lt_or_eq.1 hj with h1 | rfl
          · exact hbe.out j h1
          · exact hbf : ∀ j, j < k + 1 → hbB (gt ps j) p = true)
        clear hc hbf hrr
        go_wp2_with fail
        refine wp_region_still_tail 10 (by kernel_rfl) (by kernel_rfl) ?_
        simp only [List.take_succ_cons, List.take_zero, List.drop_succ_cons, List.drop_zero]
        repeat still_step
        refine wpStill_nil ?_
        go_wp2_with (go_at_call 59; refine (implHandleBefore_any _ _ _ _ _).mono ?_; rintro e w2 ⟨rfl, hb2⟩)
        go_roundw
        case rel => exact ⟨k + 1, by omega, HN, by go_num, hbl.trans (((below_drew1 wr).trans hb2).mono (by show w.heap.size + 1 ≤ wr.heap.size; omega))⟩
        case measure => simp [intOf]; omega
      · have hpos : posF ps p = k := posF_eq ps p k hk hbe.out (fun hlt => by
          cases hq : hbB (gt ps k) p
          · rfl
          · exact absurd ⟨hlt, hq⟩ hgo)
        have HP := Lib.hid hpos
        have hins : Hid (insF ps p = ps.take k ++ [p] ++ ps.drop k) := Lib.hid (by rw [insF, hpos])
        clear hpos
        have hinl : (insF ps p).length ≤ 11 := by rw [insF_len]; omega
        by_cases hlt : k < ps.length
        · have hbf : hbB (gt ps k) p = false := by
            cases hq : hbB (gt ps k) p
            · rfl
            · exact absurd ⟨hlt, hq⟩ hgo
          obtain ⟨b, off, hAe, hb, hc⟩ := hrr.at_ (by omega)
          have c0 : wr.cell? ⟨b, off + k * 2, none⟩ = some (Value.string ((gt ps k).1)) := hc k 0 (by omega) (by omega)
          have c1 : wr.cell? ⟨b, off + k * 2 + 1, none⟩ = some (Value.string ((gt ps k).2)) := hc k 1 (by omega) (by omega)
          have hlt2 : decide ((k : Int) < (ps.length : Int)) = true := by simp [hlt]
          have hlt3 : decide (k < ps.length) = true := by simp [hlt]
          have hbf' : hbB ((gt ps k).1, (gt ps k).2) (p.1, p.2) = false := hbf
          subst hAe
          clear hc hbf hgo
          go_wp2_with fail
          refine wp_region_still_tail 10 (by kernel_rfl) (by kernel_rfl) ?_
          simp only [List.take_succ_cons, List.take_zero, List.drop_succ_cons, List.drop_zero]
          repeat still_step
          refine wpStill_nil ?_
          go_wp2_with (go_at_call 59; refine (implHandleBefore_any _ _ _ _ _).mono ?_; rintro e w2 ⟨rfl, hb2⟩; have hb2' : Below (w.heap.size + 1) wr w2 := ((below_drew1 wr).trans hb2).mono (by show w.heap.size + 1 ≤ wr.heap.size; omega); have s0 := (hb2'.cell (p := ⟨w.heap.size, 0, none⟩) (by show w.heap.size < w.heap.size + 1; omega)).trans q0; have s1 := (hb2'.cell (p := ⟨w.heap.size, 1, none⟩) (by show w.heap.size < w.heap.size + 1; omega)).trans q1)
          have hr2 := hrr.below (hb2'.mono (by omega))
          have hbw2 := hbw.trans (hb2'.mono (by omega))
          have hsz2 : w.heap.size + 1 ≤ w2.heap.size := Nat.le_trans (by omega) hb2'.size
          clear c0 c1 q0 q1 hlt2 hlt3 hbf' hb2 hb2' hrr hbw hbl
          go_wp2_with fail
          have hcall := withAtHandle_any _ _ B ps k p w2 hr2 (by omega) hS hk (by omega)
          rw [← hins.out] at hcall
          refine hcall.mono ?_
          clear hcall
          rintro e w5 ⟨T, cap5, rfl, ho5, hb5⟩
          have hr5 := hr2.below (hb5.mono (by omega))
          have hs5 := hb5.size
          have c5 := hbw2.trans (hb5.mono (by omega))
          by_cases hv2 : fvB (insF ps p) = true
          · have HE := Lib.hid (folOf_yes hv hv2)
            go_wp2_with (go_at_call 37; refine (implFollowersValid_any _ _ _ (insF ps p) w5 ho5.rd (Nat.le_refl _) (by omega) HSI.out).mono ?_; rintro e w6 ⟨rfl, hb6⟩)
            go_ret2
            rw [HE.out.1, HE.out.2]
            exact ⟨T, cap5, rfl, Own.more (Own.below ho5 hb6) (by omega), c5.trans (hb6.mono (by omega))⟩
          · have hv2' : fvB (insF ps p) = false := by simpa using hv2
            have HE := Lib.hid (folOf_no hv hv2')
            clear hv2
            go_wp2_with (first
              | (go_at_call 37; refine (implFollowersValid_any _ _ _ (insF ps p) w5 ho5.rd (Nat.le_refl _) (by omega) HSI.out).mono ?_; rintro e w6 ⟨rfl, hb6⟩; have hs6 := hb6.size)
              | (go_at_call 64; refine (copyOfHandle_any _ _ B ps w6 (hr5.below (hb6.mono (by omega))) (by omega)).mono ?_; rintro e w7 ⟨T7, cap7, rfl, ho7, hb7⟩))
            go_ret2
            rw [HE.out.1, HE.out.2]
            exact ⟨T7, cap7, rfl, Own.more ho7 (by omega), (c5.trans (hb6.mono (by omega))).trans (hb7.mono (by omega))⟩
        · have hlt2 : decide ((k : Int) < (ps.length : Int)) = false := by simp; omega
          have hlt3 : decide (k < ps.length) = false := by simp; omega
          clear hgo
          go_wp2_with fail
          go_quiet (fail)
          have s0 : (wr.drewN nq).cell? ⟨w.heap.size, 0, none⟩ = some (.string p.1) := q0
          have s1 : (wr.drewN nq).cell? ⟨w.heap.size, 1, none⟩ = some (.string p.2) := q1
          have hr2 : RdE 2 encHandle (wr.drewN nq) B A ps := hrr
          have hbw2 := below_drewN hbw nq
          have hsz2 : w.heap.size + 1 ≤ (wr.drewN nq).heap.size := by show w.heap.size + 1 ≤ wr.heap.size; omega
          clear q0 q1 hlt2 hlt3 hrr hbw hbl
          generalize wr.drewN nq = w2 at *
          go_wp2_with fail
          have hcall := withAtHandle_any _ _ B ps k p w2 hr2 (by omega) hS hk (by omega)
          rw [← hins.out] at hcall
          refine hcall.mono ?_
          clear hcall
          rintro e w5 ⟨T, cap5, rfl, ho5, hb5⟩
          have hr5 := hr2.below (hb5.mono (by omega))
          have hs5 := hb5.size
          have c5 := hbw2.trans (hb5.mono (by omega))
          by_cases hv2 : fvB (insF ps p) = true
          · have HE := Lib.hid (folOf_yes hv hv2)
            go_wp2_with (go_at_call 37; refine (implFollowersValid_any _ _ _ (insF ps p) w5 ho5.rd (Nat.le_refl _) (by omega) HSI.out).mono ?_; rintro e w6 ⟨rfl, hb6⟩)
            go_ret2
            rw [HE.out.1, HE.out.2]
            exact ⟨T, cap5, rfl, Own.more (Own.below ho5 hb6) (by omega), c5.trans (hb6.mono (by omega))⟩
          · have hv2' : fvB (insF ps p) = false := by simpa using hv2
            have HE := Lib.hid (folOf_no hv hv2')
            clear hv2
            go_wp2_with (first
              | (go_at_call 37; refine (implFollowersValid_any _ _ _ (insF ps p) w5 ho5.rd (Nat.le_refl _) (by omega) HSI.out).mono ?_; rintro e w6 ⟨rfl, hb6⟩; have hs6 := hb6.size)
              | (go_at_call 64; refine (copyOfHandle_any _ _ B ps w6 (hr5.below (hb6.mono (by omega))) (by omega)).mono ?_; rintro e w7 ⟨T7, cap7, rfl, ho7, hb7⟩))
            go_ret2
            rw [HE.out.1, HE.out.2]
            exact ⟨T7, cap7, rfl, Own.more ho7 (by omega), (c5.trans (hb6.mono (by omega))).trans (hb7.mono (by omega))⟩
  · have hv' : fvB ps = false := by simpa using hv
    obtain ⟨e1, e2⟩ := folOf_bad (p := p) hv'
    rw [e1, e2]
    clear hv e1 e2
    go_enter Try.func57, Try.ntmps57
    go_wp2_with (go_at_call 37; refine (implFollowersValid_any _ _ B ps _ (h.below (hbA.mono hB)) (Nat.le_trans hB hbA.size) hl HSZ.out).mono ?_; rintro e w1 ⟨rfl, hb1⟩)
    go_ret2
    exact ⟨none, 0, rfl, Own.nil _ _ _ _ _, hbA.trans (hb1.mono hbA.size)⟩
end Go.Proofs.Ytdcppbaahoimfaa
