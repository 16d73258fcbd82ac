/- Parts of the proof, merged: FollowF. -/
import Derived.Test.YtfnmlffpnmmcdaaGreatDoorMc6
import Derived.Test.YtfnmlffpnmmcdaaGreatDoorMc8
import Derived.Deep.RegionHeld3
namespace Go.Proofs.YtfnmlffpnmmcdaaGreatDoor
set_option maxRecDepth 100000
open Go.RowKit
set_option maxHeartbeats 800000 in
theorem specFollow_any (A : Option Addr) (cap B : Nat) (ps : List ElHandle) (p : ElHandle) (w : World) (h : RdE 2 encHandle w B A ps) (hB : B ≤ w.heap.size) (hl : ps.length ≤ 140737488351232) (hS : Shp A ps.length cap) (hsz : ∀ k, k < ps.length → (gt ps k).1.size ≤ maxLen ∧ (gt ps k).2.size ≤ maxLen) (hp : p.1.size ≤ maxLen ∧ p.2.size ≤ maxLen) :
    Calls Tryz.prog 37 #[.slice A ps.length cap, .agg #[.string p.1, .string p.2]] w fun e w' => ∃ T' cap', e = .returned (.tuple #[.slice T' (folOf ps p).length cap', .bool (folOk ps p)]) ∧ OwnE 2 encHandle 29 w' w.heap.size T' cap' (folOf ps p) ∧ Below w.heap.size w w' := by
 have HSZ := Lib.hid hsz
 have HSI := Lib.hid (insF_sz hsz hp)
 clear hsz hp
 have hbA : Below w.heap.size w (w.alloc (.cells #[.string p.1, .string p.2] 29)) := (Below.refl _ _).alloc (Nat.le_refl _) _
 have hpA0 : (w.alloc (.cells #[.string p.1, .string p.2] 29)).cell? ⟨w.heap.size, 0, none⟩ = some (.string p.1) := by rw [World.cell?_alloc_at _ _ _ _ rfl]; rfl
 have hpA1 : (w.alloc (.cells #[.string p.1, .string p.2] 29)).cell? ⟨w.heap.size, 1, none⟩ = some (.string p.2) := by rw [World.cell?_alloc_at _ _ _ _ rfl]; rfl
 have hzA : (w.alloc (.cells #[.string p.1, .string p.2] 29)).heap.size = w.heap.size + 1 := by simp
 by_cases hv : fvB ps = true
 ·have h10 := (Fv.of hv).1
  go_enter Tryz.func37, Tryz.ntmps37
  go_wp2_with fail
  have HZ := Lib.hid hzA; clear hzA
  generalize (w.alloc (.cells #[.string p.1, .string p.2] 29)) = wA at *
  refine (specFollowersValid_any _ _ B ps wA (h.below (hbA.mono hB)) (Nat.le_trans hB hbA.size) hl HSZ.out).mono ?_
  rintro e w1 ⟨rfl, hb1⟩
  have hb1' : Below (w.heap.size + 1) wA w1 := hb1.mono (by rw [HZ.out]; exact Nat.le_refl _)
  have hsA : w.heap.size + 1 ≤ wA.heap.size := by rw [HZ.out]; exact Nat.le_refl _
  go_wp2_with fail
  go_loopw [6] (fun i wr => ∃ k : Nat, k ≤ ps.length ∧ Hid (∀ j, j < k → hbB (gt ps j) p = true) ∧ i = .int .i64 k ∧ Below (w.heap.size + 1) wA wr) (fun i _ => ps.length - (intOf i).toNat)
  case atStart => exact ⟨0, Nat.zero_le _, Lib.hid (fun j hj => absurd hj (by omega)), rfl, hb1'⟩
  case round =>
   clear hb1 hb1'
   obtain ⟨k, hk, hbe, rfl, hbl⟩ := hrel
   have hsz := hbl.size
   have q0 : wr.cell? ⟨w.heap.size, 0, none⟩ = some (.string p.1) := (hbl.cell (p := ⟨w.heap.size, 0, none⟩) (by show w.heap.size < w.heap.size + 1; omega)).trans hpA0
   have q1 : wr.cell? ⟨w.heap.size, 1, none⟩ = some (.string p.2) := (hbl.cell (p := ⟨w.heap.size, 1, none⟩) (by show w.heap.size < w.heap.size + 1; omega)).trans hpA1
   have hrr : RdE 2 encHandle wr B A ps := (h.below (hbA.mono hB)).below (hbl.mono (by omega))
   have hbw : Below w.heap.size w wr := hbA.trans (hbl.mono (by omega))
   by_cases hgo : k < ps.length ∧ hbB (gt ps k) p = true
   ·obtain ⟨hlt, hbf⟩ := hgo
    obtain ⟨b, off, rfl, hb, hc⟩ := hrr.at_ (by omega)
    have c0 : wr.cell? ⟨b, off + k * 2, none⟩ = some (Value.string ((gt ps k).1)) := hc k 0 (by omega) (by omega)
    have c1 : wr.cell? ⟨b, off + k * 2 + 1, none⟩ = some (Value.string ((gt ps k).2)) := hc k 1 (by omega) (by omega)
    have hlt2 : decide ((k : Int) < (ps.length : Int)) = true := by simp [hlt]
    have hlt3 : decide (k < ps.length) = true := by simp [hlt]
    have hbf' : hbB ((gt ps k).1, (gt ps k).2) (p.1, p.2) = true := hbf
    have HN := Lib.hid (fun j (hj : j < k + 1) => by
     rcases Nat.lt_succ_iff_lt_or_eq.1 hj with h1 | rfl
     ·exact hbe.out j h1
     ·exact hbf : ∀ j, j < k + 1 → hbB (gt ps j) p = true)
    clear hc hbf hrr
    go_wp2_with fail
    refine wp_region_still_tail 10 (by kernel_rfl) (by kernel_rfl) ?_
    simp only [List.take_succ_cons, List.take_zero, List.drop_succ_cons, List.drop_zero]
    repeat still_step
    refine wpStill_nil ?_
    go_wp2_with (go_at_call 82; refine (specHandleBefore_any _ _ _ _ _).mono ?_; rintro e w2 ⟨rfl, hb2⟩)
    go_roundw
    case rel => exact ⟨k + 1, by omega, HN, by go_num, hbl.trans (((below_drew1 wr).trans hb2).mono (by show w.heap.size + 1 ≤ wr.heap.size; omega))⟩
    case measure => simp [intOf]; omega
   ·have hpos : posF ps p = k := posF_eq ps p k hk hbe.out (fun hlt => by
       cases hq : hbB (gt ps k) p
       ·rfl
       ·exact absurd ⟨hlt, hq⟩ hgo)
    have HP := Lib.hid hpos
    have hins : Hid (insF ps p = ps.take k ++ [p] ++ ps.drop k) := Lib.hid (by rw [insF, hpos])
    clear hpos
    have hinl : (insF ps p).length ≤ 11 := by rw [insF_len]; omega
    by_cases hlt : k < ps.length
    ·have hbf : hbB (gt ps k) p = false := by
        cases hq : hbB (gt ps k) p
        ·rfl
        ·exact absurd ⟨hlt, hq⟩ hgo
     obtain ⟨b, off, hAe, hb, hc⟩ := hrr.at_ (by omega)
     have c0 : wr.cell? ⟨b, off + k * 2, none⟩ = some (Value.string ((gt ps k).1)) := hc k 0 (by omega) (by omega)
     have c1 : wr.cell? ⟨b, off + k * 2 + 1, none⟩ = some (Value.string ((gt ps k).2)) := hc k 1 (by omega) (by omega)
     have hlt2 : decide ((k : Int) < (ps.length : Int)) = true := by simp [hlt]
     have hlt3 : decide (k < ps.length) = true := by simp [hlt]
     have hbf' : hbB ((gt ps k).1, (gt ps k).2) (p.1, p.2) = false := hbf
     subst hAe
     clear hc hbf hgo
     go_wp2_with fail
     refine wp_region_still_tail 10 (by kernel_rfl) (by kernel_rfl) ?_
     simp only [List.take_succ_cons, List.take_zero, List.drop_succ_cons, List.drop_zero]
     repeat still_step
     refine wpStill_nil ?_
     go_wp2_with (go_at_call 82; refine (specHandleBefore_any _ _ _ _ _).mono ?_; rintro e w2 ⟨rfl, hb2⟩; have hb2' : Below (w.heap.size + 1) wr w2 := ((below_drew1 wr).trans hb2).mono (by show w.heap.size + 1 ≤ wr.heap.size; omega); have s0 := (hb2'.cell (p := ⟨w.heap.size, 0, none⟩) (by show w.heap.size < w.heap.size + 1; omega)).trans q0; have s1 := (hb2'.cell (p := ⟨w.heap.size, 1, none⟩) (by show w.heap.size < w.heap.size + 1; omega)).trans q1)
     have hr2 := hrr.below (hb2'.mono (by omega))
     have hbw2 := hbw.trans (hb2'.mono (by omega))
     have hsz2 : w.heap.size + 1 ≤ w2.heap.size := Nat.le_trans (by omega) hb2'.size
     clear c0 c1 q0 q1 hlt2 hlt3 hbf' hb2 hb2' hrr hbw hbl
     have hempA : Own (w2.alloc (.cells #[] 29)) (w.heap.size + 1) 29 2 (some ⟨w2.heap.size, 0, none⟩) 0 0 (cE 2 encHandle ([] : List ElHandle)) := Own.more (Own.lit w2 29 2 0 #[] (cE 2 encHandle ([] : List ElHandle)) (Nat.zero_le _) rfl) (by first | omega | (simp; done) | (simp; omega))
     have hempB : Own ((w2.alloc (.cells #[] 29)).alloc (.cells #[.string p.1, .string p.2] 29)) (w.heap.size + 1) 29 2 (some ⟨w2.heap.size, 0, none⟩) 0 0 (cE 2 encHandle ([] : List ElHandle)) := Own.below hempA ((Below.refl _ _).alloc (Nat.le_refl _) _)
     have hempC : Own ((w2.alloc (.cells #[.string p.1, .string p.2] 29)).alloc (.cells #[] 29)) (w.heap.size + 1) 29 2 (some ⟨w2.heap.size + 1, 0, none⟩) 0 0 (cE 2 encHandle ([] : List ElHandle)) := by
      have := Own.lit (w2.alloc (.cells #[.string p.1, .string p.2] 29)) 29 2 0 #[] (cE 2 encHandle ([] : List ElHandle)) (Nat.zero_le _) rfl
      rw [show ((w2.alloc (.cells #[.string p.1, .string p.2] 29))).heap.size = w2.heap.size + 1 by simp] at this
      exact Own.more this (by omega)
     have hgA : Below (w.heap.size + 1) w2 (w2.alloc (.cells #[] 29)) := (Below.refl (w.heap.size + 1) w2).alloc (by omega) _
     have hgB : Below (w.heap.size + 1) w2 ((w2.alloc (.cells #[] 29)).alloc (.cells #[.string p.1, .string p.2] 29)) := hgA.alloc (by first | omega | (simp; done) | (simp; omega)) _
     have hgP : Below (w.heap.size + 1) w2 (w2.alloc (.cells #[.string p.1, .string p.2] 29)) := (Below.refl (w.heap.size + 1) w2).alloc (by omega) _
     have hgC : Below (w.heap.size + 1) w2 ((w2.alloc (.cells #[.string p.1, .string p.2] 29)).alloc (.cells #[] 29)) := hgP.alloc (by first | omega | (simp; done) | (simp; omega)) _
     have hbeA := hbw2.trans (hgA.mono (Nat.le_succ _))
     have hbeB := hbw2.trans (hgB.mono (Nat.le_succ _))
     have hbeC := hbw2.trans (hgC.mono (Nat.le_succ _))
     have qa0 := (hgA.cell (p := ⟨w.heap.size, 0, none⟩) (by show w.heap.size < w.heap.size + 1; omega)).trans s0
     have qa1 := (hgA.cell (p := ⟨w.heap.size, 1, none⟩) (by show w.heap.size < w.heap.size + 1; omega)).trans s1
     have qb0 := (hgB.cell (p := ⟨w.heap.size, 0, none⟩) (by show w.heap.size < w.heap.size + 1; omega)).trans s0
     have qb1 := (hgB.cell (p := ⟨w.heap.size, 1, none⟩) (by show w.heap.size < w.heap.size + 1; omega)).trans s1
     have qp0 := (hgP.cell (p := ⟨w.heap.size, 0, none⟩) (by show w.heap.size < w.heap.size + 1; omega)).trans s0
     have qp1 := (hgP.cell (p := ⟨w.heap.size, 1, none⟩) (by show w.heap.size < w.heap.size + 1; omega)).trans s1
     have qc0 := (hgC.cell (p := ⟨w.heap.size, 0, none⟩) (by show w.heap.size < w.heap.size + 1; omega)).trans s0
     have qc1 := (hgC.cell (p := ⟨w.heap.size, 1, none⟩) (by show w.heap.size < w.heap.size + 1; omega)).trans s1
     have hrA : RdE 2 encHandle (w2.alloc (.cells #[] 29)) B (some ⟨b, off, none⟩) ps := hr2.below (hgA.mono (by omega))
     have hrB : RdE 2 encHandle ((w2.alloc (.cells #[] 29)).alloc (.cells #[.string p.1, .string p.2] 29)) B (some ⟨b, off, none⟩) ps := hr2.below (hgB.mono (by omega))
     have hrC : RdE 2 encHandle ((w2.alloc (.cells #[.string p.1, .string p.2] 29)).alloc (.cells #[] 29)) B (some ⟨b, off, none⟩) ps := hr2.below (hgC.mono (by omega))
     have hxB : ∀ j, j < 2 → (((w2.alloc (.cells #[] 29)).alloc (.cells #[.string p.1, .string p.2] 29))).cell? ⟨w2.heap.size + 1, j, none⟩ = some (encHandle p j) := fun j hj => by
      rw [World.cell?_alloc_at _ _ _ _ (by simp)]; rcases (by omega : j = 0 ∨ j = 1) with rfl | rfl <;> rfl
     have hxC : ∀ j, j < 2 → (((w2.alloc (.cells #[.string p.1, .string p.2] 29)).alloc (.cells #[] 29))).cell? ⟨w2.heap.size, j, none⟩ = some (encHandle p j) := fun j hj => by
      rw [((Below.refl (w2.heap.size + 1) (w2.alloc (.cells #[.string p.1, .string p.2] 29))).alloc (by simp) _).cell (by show w2.heap.size < w2.heap.size + 1; omega), World.cell?_alloc_at _ _ _ _ rfl]; rcases (by omega : j = 0 ∨ j = 1) with rfl | rfl <;> rfl
     have hlk : (ps.take k).length = k := by simp; omega
     have hlk1 : (ps.take k ++ [p]).length = k + 1 := by simp; omega
     have hld : (ps.drop k).length = ps.length - k := by simp
     have hk0 : (0 : Int) ≤ (k : Int) := Int.natCast_nonneg _
     have hkl : (k : Int) ≤ (ps.length : Int) := by omega
     have szA : ((w2.alloc (.cells #[] 29))).drew.heap.size = w2.heap.size + 1 := by simp
     have szB : (((w2.alloc (.cells #[] 29)).alloc (.cells #[.string p.1, .string p.2] 29))).drew.heap.size = w2.heap.size + 1 + 1 := by simp
     have szC : (((w2.alloc (.cells #[.string p.1, .string p.2] 29)).alloc (.cells #[] 29))).drew.heap.size = w2.heap.size + 1 + 1 := by simp
     replace hempA : Own ((w2.alloc (.cells #[] 29))).drew (w.heap.size + 1) 29 2 (some ⟨w2.heap.size, 0, none⟩) 0 0 (cE 2 encHandle ([] : List ElHandle)) := hempA
     replace hempB : Own (((w2.alloc (.cells #[] 29)).alloc (.cells #[.string p.1, .string p.2] 29))).drew (w.heap.size + 1) 29 2 (some ⟨w2.heap.size, 0, none⟩) 0 0 (cE 2 encHandle ([] : List ElHandle)) := hempB
     replace hempC : Own (((w2.alloc (.cells #[.string p.1, .string p.2] 29)).alloc (.cells #[] 29))).drew (w.heap.size + 1) 29 2 (some ⟨w2.heap.size + 1, 0, none⟩) 0 0 (cE 2 encHandle ([] : List ElHandle)) := hempC
     replace hrA : RdE 2 encHandle ((w2.alloc (.cells #[] 29))).drew B (some ⟨b, off, none⟩) ps := hrA
     replace hrB : RdE 2 encHandle (((w2.alloc (.cells #[] 29)).alloc (.cells #[.string p.1, .string p.2] 29))).drew B (some ⟨b, off, none⟩) ps := hrB
     replace hrC : RdE 2 encHandle (((w2.alloc (.cells #[.string p.1, .string p.2] 29)).alloc (.cells #[] 29))).drew B (some ⟨b, off, none⟩) ps := hrC
     replace hbeA := hbeA.drew
     replace hbeB := hbeB.drew
     replace hbeC := hbeC.drew
     replace qa0 : (((w2.alloc (.cells #[] 29))).drew).cell? ⟨w.heap.size, 0, none⟩ = some (.string p.1) := qa0
     replace qa1 : (((w2.alloc (.cells #[] 29))).drew).cell? ⟨w.heap.size, 1, none⟩ = some (.string p.2) := qa1
     replace qb0 : ((((w2.alloc (.cells #[] 29)).alloc (.cells #[.string p.1, .string p.2] 29))).drew).cell? ⟨w.heap.size, 0, none⟩ = some (.string p.1) := qb0
     replace qb1 : ((((w2.alloc (.cells #[] 29)).alloc (.cells #[.string p.1, .string p.2] 29))).drew).cell? ⟨w.heap.size, 1, none⟩ = some (.string p.2) := qb1
     replace qc0 : ((((w2.alloc (.cells #[.string p.1, .string p.2] 29)).alloc (.cells #[] 29))).drew).cell? ⟨w.heap.size, 0, none⟩ = some (.string p.1) := qc0
     replace qc1 : ((((w2.alloc (.cells #[.string p.1, .string p.2] 29)).alloc (.cells #[] 29))).drew).cell? ⟨w.heap.size, 1, none⟩ = some (.string p.2) := qc1
     replace hxB : ∀ j, j < 2 → ((((w2.alloc (.cells #[] 29)).alloc (.cells #[.string p.1, .string p.2] 29))).drew).cell? ⟨w2.heap.size + 1, j, none⟩ = some (encHandle p j) := hxB
     replace hxC : ∀ j, j < 2 → ((((w2.alloc (.cells #[.string p.1, .string p.2] 29)).alloc (.cells #[] 29))).drew).cell? ⟨w2.heap.size, j, none⟩ = some (encHandle p j) := hxC
     clear hr2 hgA hgB hgC hgP
     rcases hS with ⟨hAn, _⟩ | ⟨b', off', hA', hcap, hmx⟩
     ·cases hAn
     ·cases hA'
      unfold maxLen at hmx
      have hkc : (k : Int) ≤ (cap : Int) := by omega
      have hlc : (ps.length : Int) ≤ (cap : Int) := by omega
      have hck : ¬ cap = k := by omega
      have hdrop : ∀ {v : World}, RdE 2 encHandle v B (some ⟨b, off, none⟩) ps → RdE 2 encHandle v B (some ⟨b, off + k * 2, none⟩) (ps.drop k) := fun h => RdE.drop h
      go_wp2_with fail
      go_region_held3 (fun w' => w'.cell? ⟨w.heap.size, 0, none⟩ = some (.string p.1) ∧ w'.cell? ⟨w.heap.size, 1, none⟩ = some (.string p.2)) (first | exact ⟨s0, s1⟩ | exact ⟨qa0, qa1⟩ | exact ⟨qb0, qb1⟩ | exact ⟨qc0, qc1⟩ | exact ⟨qp0, qp1⟩ | exact ⟨t0, t1⟩ | exact ⟨v0, v1⟩ | exact ⟨y0, y1⟩ | go_keep) (first
       | (refine step_app (by rfl) (.tmp 26) (.tmp 29) _ (by rfl) (w.heap.size + 1) 29 _ 2 32 Tryz.underlying31 info_Handle rfl (by omega) (some ⟨w2.heap.size, 0, none⟩) (some ⟨b, off, none⟩) 0 0 k cap _ (cE 2 encHandle ([] : List ElHandle)) (cE 2 encHandle (ps.take k)) (by simp [go_sem]) (by simp [go_sem]) hempA (RdE.len (hrA.take k) hlk) (fun _ _ => encHandle_one _ _) (by simp only [maxLen]; omega) (by omega) (by first | omega | (simp; done) | (simp; omega)) ?_; intro T1 cap1 w3 hown1 hg1; have hb3 := grown_below hg1 (fun b hb => (Own.lt hempA hb).1) (by first | omega | (simp; done) | (simp; omega)); have t0 := (hb3.cell (p := ⟨w.heap.size, 0, none⟩) (by show w.heap.size < w.heap.size + 1; omega)).trans qa0; have t1 := (hb3.cell (p := ⟨w.heap.size, 1, none⟩) (by show w.heap.size < w.heap.size + 1; omega)).trans qa1; have hown1' := OwnE.first hown1 hlk; have z3 := hb3.size; rw [szA] at z3; have z3' : w.heap.size + 1 ≤ w3.heap.size := (by omega); have hr3' := hrA.below (hb3.mono (by omega)); have c3 := hbeA.trans (hb3.mono (by omega)); clear hown1 hg1)
       | (refine step_app (by rfl) (.tmp 26) (.tmp 29) _ (by rfl) (w.heap.size + 1) 29 _ 2 32 Tryz.underlying31 info_Handle rfl (by omega) (some ⟨w2.heap.size, 0, none⟩) (some ⟨b, off, none⟩) 0 0 k cap _ (cE 2 encHandle ([] : List ElHandle)) (cE 2 encHandle (ps.take k)) (by simp [go_sem]) (by simp [go_sem]) hempB (RdE.len (hrB.take k) hlk) (fun _ _ => encHandle_one _ _) (by simp only [maxLen]; omega) (by omega) (by first | omega | (simp; done) | (simp; omega)) ?_; intro T1 cap1 w3 hown1 hg1; have hb3 := grown_below hg1 (fun b hb => (Own.lt hempB hb).1) (by first | omega | (simp; done) | (simp; omega)); have t0 := (hb3.cell (p := ⟨w.heap.size, 0, none⟩) (by show w.heap.size < w.heap.size + 1; omega)).trans qb0; have t1 := (hb3.cell (p := ⟨w.heap.size, 1, none⟩) (by show w.heap.size < w.heap.size + 1; omega)).trans qb1; have hown1' := OwnE.first hown1 hlk; have z3 := hb3.size; rw [szB] at z3; have z3' : w.heap.size + 1 ≤ w3.heap.size := (by omega); have hr3' := hrB.below (hb3.mono (by omega)); have c3 := hbeB.trans (hb3.mono (by omega)); have hp1 := elem_kept (enc := encHandle) (y := p) (w2.heap.size + 1) hg1 (by first | omega | (simp; done) | (simp; omega)) (.inr (by first | (simp [blk]; done) | (simp [blk]; omega))) hxB; clear hown1 hg1)
       | (refine step_app (by rfl) (.tmp 26) (.tmp 29) _ (by rfl) (w.heap.size + 1) 29 _ 2 32 Tryz.underlying31 info_Handle rfl (by omega) (some ⟨w2.heap.size + 1, 0, none⟩) (some ⟨b, off, none⟩) 0 0 k cap _ (cE 2 encHandle ([] : List ElHandle)) (cE 2 encHandle (ps.take k)) (by simp [go_sem]) (by simp [go_sem]) hempC (RdE.len (hrC.take k) hlk) (fun _ _ => encHandle_one _ _) (by simp only [maxLen]; omega) (by omega) (by first | omega | (simp; done) | (simp; omega)) ?_; intro T1 cap1 w3 hown1 hg1; have hb3 := grown_below hg1 (fun b hb => (Own.lt hempC hb).1) (by first | omega | (simp; done) | (simp; omega)); have t0 := (hb3.cell (p := ⟨w.heap.size, 0, none⟩) (by show w.heap.size < w.heap.size + 1; omega)).trans qc0; have t1 := (hb3.cell (p := ⟨w.heap.size, 1, none⟩) (by show w.heap.size < w.heap.size + 1; omega)).trans qc1; have hown1' := OwnE.first hown1 hlk; have z3 := hb3.size; rw [szC] at z3; have z3' : w.heap.size + 1 ≤ w3.heap.size := (by omega); have hr3' := hrC.below (hb3.mono (by omega)); have c3 := hbeC.trans (hb3.mono (by omega)); have hp1 := elem_kept (enc := encHandle) (y := p) w2.heap.size hg1 (by first | omega | (simp; done) | (simp; omega)) (.inr (by first | (simp [blk]; done) | (simp [blk]; omega))) hxC; clear hown1 hg1)
       | (refine step_app (by rfl) (.tmp 30) (.tmp 32) _ (by rfl) (w.heap.size + 1) 29 _ 2 32 Tryz.underlying31 info_Handle rfl (by omega) T1 (some ⟨w3.heap.size, 0, none⟩) k cap1 1 1 _ (cE 2 encHandle (ps.take k)) (encHandle p) (by simp [go_sem]) (by simp [go_sem]) (Own.below (OwnE.own hown1' hlk) ((Below.refl _ _).alloc (Nat.le_refl _) _)) (rd_elem _ _ _ _ (fun j hj => by rcases (by omega : j = 0 ∨ j = 1) with rfl | rfl <;> rfl)) (fun _ _ => encHandle_one _ _) (by simp only [maxLen]; omega) (by omega) (by first | omega | (simp; done) | (simp; omega)) ?_; intro T2 cap2 w4 hown2 hg2; have hb4 := ((Below.refl (w.heap.size + 1) w3).alloc (by omega) _).trans (grown_below hg2 (fun b hb => (Own.lt hown1' hb).1) (by first | omega | (simp; done) | (simp; omega))); have hown2' := OwnE.push (by omega) hlk hown2; have z4 := hb4.size; have v0 := (hb4.cell (p := ⟨w.heap.size, 0, none⟩) (by show w.heap.size < w.heap.size + 1; omega)).trans t0; have v1 := (hb4.cell (p := ⟨w.heap.size, 1, none⟩) (by show w.heap.size < w.heap.size + 1; omega)).trans t1; clear hown2 hg2)
       | (refine step_app (by rfl) (.tmp 30) (.tmp 32) _ (by rfl) (w.heap.size + 1) 29 _ 2 32 Tryz.underlying31 info_Handle rfl (by omega) T1 (some ⟨w2.heap.size + 1, 0, none⟩) k cap1 1 1 _ (cE 2 encHandle (ps.take k)) (encHandle p) (by simp [go_sem]) (by simp [go_sem]) (OwnE.own hown1' hlk) hp1 (fun _ _ => encHandle_one _ _) (by simp only [maxLen]; omega) (by omega) (by first | omega | (simp; done) | (simp; omega)) ?_; intro T2 cap2 w4 hown2 hg2; have hb4 := grown_below hg2 (fun b hb => (Own.lt hown1' hb).1) (by first | omega | (simp; done) | (simp; omega)); have hown2' := OwnE.push (by omega) hlk hown2; have z4 := hb4.size; have v0 := (hb4.cell (p := ⟨w.heap.size, 0, none⟩) (by show w.heap.size < w.heap.size + 1; omega)).trans t0; have v1 := (hb4.cell (p := ⟨w.heap.size, 1, none⟩) (by show w.heap.size < w.heap.size + 1; omega)).trans t1; clear hown2 hg2)
       | (refine step_app (by rfl) (.tmp 30) (.tmp 32) _ (by rfl) (w.heap.size + 1) 29 _ 2 32 Tryz.underlying31 info_Handle rfl (by omega) T1 (some ⟨w2.heap.size, 0, none⟩) k cap1 1 1 _ (cE 2 encHandle (ps.take k)) (encHandle p) (by simp [go_sem]) (by simp [go_sem]) (OwnE.own hown1' hlk) hp1 (fun _ _ => encHandle_one _ _) (by simp only [maxLen]; omega) (by omega) (by first | omega | (simp; done) | (simp; omega)) ?_; intro T2 cap2 w4 hown2 hg2; have hb4 := grown_below hg2 (fun b hb => (Own.lt hown1' hb).1) (by first | omega | (simp; done) | (simp; omega)); have hown2' := OwnE.push (by omega) hlk hown2; have z4 := hb4.size; have v0 := (hb4.cell (p := ⟨w.heap.size, 0, none⟩) (by show w.heap.size < w.heap.size + 1; omega)).trans t0; have v1 := (hb4.cell (p := ⟨w.heap.size, 1, none⟩) (by show w.heap.size < w.heap.size + 1; omega)).trans t1; clear hown2 hg2)
       | (refine step_app (by rfl) (.tmp 33) (.tmp 36) _ (by rfl) (w.heap.size + 1) 29 _ 2 32 Tryz.underlying31 info_Handle rfl (by omega) T2 (some ⟨b, off + k * 2, none⟩) (k + 1) cap2 (ps.length - k) (cap - k) _ (cE 2 encHandle ((ps.take k) ++ [p])) (cE 2 encHandle (ps.drop k)) (by simp [go_sem]) (by simp [go_sem]) (OwnE.own hown2' hlk1) (RdE.len ((hdrop hr3').below (hb4.mono (by omega))) hld) (fun _ _ => encHandle_one _ _) (by simp only [maxLen]; omega) (by omega) (by first | omega | (simp; done) | (simp; omega)) ?_; intro T3 cap3 w5 hown3 hg3; have hb5 := grown_below hg3 (fun b hb => (Own.lt hown2' hb).1) (by omega); have y0 := (hb5.cell (p := ⟨w.heap.size, 0, none⟩) (by show w.heap.size < w.heap.size + 1; omega)).trans v0; have y1 := (hb5.cell (p := ⟨w.heap.size, 1, none⟩) (by show w.heap.size < w.heap.size + 1; omega)).trans v1; have hown3' := OwnE.join (by omega) hlk1 hld hown3; rw [← hins.out] at hown3'; clear hown3 hg3))
      all_goals
       have hlen : k + 1 + (ps.length - k) = (insF ps p).length := by rw [insF_len]; first | omega | rfl
       have c5 := (c3.trans (hb4.mono (by omega))).trans (hb5.mono (by omega))
       have hr5 : RdE 2 encHandle w5 B (some ⟨b, off, none⟩) ps := (hr3'.below (hb4.mono (by omega))).below (hb5.mono (by omega))
       have hs5 : w.heap.size + 1 ≤ w5.heap.size := by have := hb5.size; omega
       clear hb3 hb4 hb5 hr3' hown1' hown2' hempA hempB hempC hrA hrB hrC hbeA hbeB hbeC qa0 qa1 qb0 qb1 qc0 qc1 qp0 qp1 t0 t1 v0 v1 y0 y1 s0 s1 hbw2 hxB hxC c3 hdrop
       rw [hlen]
       by_cases hv2 : fvB (insF ps p) = true
       ·have HE := Lib.hid (folOf_yes hv hv2)
        go_wp2_with (go_at_call 80; refine (specFollowersValid_any _ _ _ (insF ps p) w5 hown3'.rd (Nat.le_refl _) (by omega) HSI.out).mono ?_; rintro e w6 ⟨rfl, hb6⟩)
        go_ret2
        rw [HE.out.1, HE.out.2]
        exact ⟨T3, cap3, rfl, Own.more (Own.below hown3' hb6) (by omega), c5.trans (hb6.mono (by omega))⟩
       ·have hv2' : fvB (insF ps p) = false := by simpa using hv2
        have HE := Lib.hid (folOf_no hv hv2')
        clear hv2
        go_wp2_with (first
         | (go_at_call 80; refine (specFollowersValid_any _ _ _ (insF ps p) w5 hown3'.rd (Nat.le_refl _) (by omega) HSI.out).mono ?_; rintro e w6 ⟨rfl, hb6⟩; have hs6 := hb6.size; have c6 := c5.trans (hb6.mono (by omega)); have c6' := c6.alloc (by omega) (.cells #[] 29); have hr6 := (hr5.below (hb6.mono (by omega))).alloc (by omega) (.cells #[] 29); have own6 : Own (w6.alloc (.cells #[] 29)) w.heap.size 29 2 (some ⟨w6.heap.size, 0, none⟩) 0 0 (cE 2 encHandle ([] : List ElHandle)) := Own.more (Own.lit w6 29 2 0 #[] (cE 2 encHandle ([] : List ElHandle)) (Nat.zero_le _) rfl) (by omega))
         | (at_builtin; refine wpList_app rfl (.tmp 41) (.tmp 42) _ rfl w.heap.size 29 _ 2 32 Tryz.underlying31 info_Handle rfl (by omega) (some ⟨w6.heap.size, 0, none⟩) (some ⟨b, off, none⟩) 0 0 ps.length cap B (cE 2 encHandle ([] : List ElHandle)) (cE 2 encHandle ps) rfl rfl own6 hr6 (fun _ _ => encHandle_one _ _) (by simp only [maxLen]; omega) (by omega) (by simp; omega) ?_; intro T8 cap8 w8 hown8 hg8))
        go_ret2
        rw [HE.out.1, HE.out.2]
        exact ⟨T8, cap8, by simp, OwnE.first hown8 rfl, c6'.trans (grown_below hg8 (fun b hb => (Own.lt own6 hb).1) (by simp; omega))⟩
    ·have hlt2 : decide ((k : Int) < (ps.length : Int)) = false := by simp; omega
     have hlt3 : decide (k < ps.length) = false := by simp; omega
     clear hgo
     go_wp2_with fail
     go_quiet (fail)
     have s0 : (wr.drewN nq).cell? ⟨w.heap.size, 0, none⟩ = some (.string p.1) := q0
     have s1 : (wr.drewN nq).cell? ⟨w.heap.size, 1, none⟩ = some (.string p.2) := q1
     have hr2 : RdE 2 encHandle (wr.drewN nq) B A ps := hrr
     have hbw2 := below_drewN hbw nq
     have hsz2 : w.heap.size + 1 ≤ (wr.drewN nq).heap.size := by show w.heap.size + 1 ≤ wr.heap.size; omega
     clear q0 q1 hlt2 hlt3 hrr hbw hbl
     generalize wr.drewN nq = w2 at *
     have hempA : Own (w2.alloc (.cells #[] 29)) (w.heap.size + 1) 29 2 (some ⟨w2.heap.size, 0, none⟩) 0 0 (cE 2 encHandle ([] : List ElHandle)) := Own.more (Own.lit w2 29 2 0 #[] (cE 2 encHandle ([] : List ElHandle)) (Nat.zero_le _) rfl) (by first | omega | (simp; done) | (simp; omega))
     have hempB : Own ((w2.alloc (.cells #[] 29)).alloc (.cells #[.string p.1, .string p.2] 29)) (w.heap.size + 1) 29 2 (some ⟨w2.heap.size, 0, none⟩) 0 0 (cE 2 encHandle ([] : List ElHandle)) := Own.below hempA ((Below.refl _ _).alloc (Nat.le_refl _) _)
     have hempC : Own ((w2.alloc (.cells #[.string p.1, .string p.2] 29)).alloc (.cells #[] 29)) (w.heap.size + 1) 29 2 (some ⟨w2.heap.size + 1, 0, none⟩) 0 0 (cE 2 encHandle ([] : List ElHandle)) := by
      have := Own.lit (w2.alloc (.cells #[.string p.1, .string p.2] 29)) 29 2 0 #[] (cE 2 encHandle ([] : List ElHandle)) (Nat.zero_le _) rfl
      rw [show ((w2.alloc (.cells #[.string p.1, .string p.2] 29))).heap.size = w2.heap.size + 1 by simp] at this
      exact Own.more this (by omega)
     have hgA : Below (w.heap.size + 1) w2 (w2.alloc (.cells #[] 29)) := (Below.refl (w.heap.size + 1) w2).alloc (by omega) _
     have hgB : Below (w.heap.size + 1) w2 ((w2.alloc (.cells #[] 29)).alloc (.cells #[.string p.1, .string p.2] 29)) := hgA.alloc (by first | omega | (simp; done) | (simp; omega)) _
     have hgP : Below (w.heap.size + 1) w2 (w2.alloc (.cells #[.string p.1, .string p.2] 29)) := (Below.refl (w.heap.size + 1) w2).alloc (by omega) _
     have hgC : Below (w.heap.size + 1) w2 ((w2.alloc (.cells #[.string p.1, .string p.2] 29)).alloc (.cells #[] 29)) := hgP.alloc (by first | omega | (simp; done) | (simp; omega)) _
     have hbeA := hbw2.trans (hgA.mono (Nat.le_succ _))
     have hbeB := hbw2.trans (hgB.mono (Nat.le_succ _))
     have hbeC := hbw2.trans (hgC.mono (Nat.le_succ _))
     have qa0 := (hgA.cell (p := ⟨w.heap.size, 0, none⟩) (by show w.heap.size < w.heap.size + 1; omega)).trans s0
     have qa1 := (hgA.cell (p := ⟨w.heap.size, 1, none⟩) (by show w.heap.size < w.heap.size + 1; omega)).trans s1
     have qb0 := (hgB.cell (p := ⟨w.heap.size, 0, none⟩) (by show w.heap.size < w.heap.size + 1; omega)).trans s0
     have qb1 := (hgB.cell (p := ⟨w.heap.size, 1, none⟩) (by show w.heap.size < w.heap.size + 1; omega)).trans s1
     have qp0 := (hgP.cell (p := ⟨w.heap.size, 0, none⟩) (by show w.heap.size < w.heap.size + 1; omega)).trans s0
     have qp1 := (hgP.cell (p := ⟨w.heap.size, 1, none⟩) (by show w.heap.size < w.heap.size + 1; omega)).trans s1
     have qc0 := (hgC.cell (p := ⟨w.heap.size, 0, none⟩) (by show w.heap.size < w.heap.size + 1; omega)).trans s0
     have qc1 := (hgC.cell (p := ⟨w.heap.size, 1, none⟩) (by show w.heap.size < w.heap.size + 1; omega)).trans s1
     have hrA : RdE 2 encHandle (w2.alloc (.cells #[] 29)) B A ps := hr2.below (hgA.mono (by omega))
     have hrB : RdE 2 encHandle ((w2.alloc (.cells #[] 29)).alloc (.cells #[.string p.1, .string p.2] 29)) B A ps := hr2.below (hgB.mono (by omega))
     have hrC : RdE 2 encHandle ((w2.alloc (.cells #[.string p.1, .string p.2] 29)).alloc (.cells #[] 29)) B A ps := hr2.below (hgC.mono (by omega))
     have hxB : ∀ j, j < 2 → (((w2.alloc (.cells #[] 29)).alloc (.cells #[.string p.1, .string p.2] 29))).cell? ⟨w2.heap.size + 1, j, none⟩ = some (encHandle p j) := fun j hj => by
      rw [World.cell?_alloc_at _ _ _ _ (by simp)]; rcases (by omega : j = 0 ∨ j = 1) with rfl | rfl <;> rfl
     have hxC : ∀ j, j < 2 → (((w2.alloc (.cells #[.string p.1, .string p.2] 29)).alloc (.cells #[] 29))).cell? ⟨w2.heap.size, j, none⟩ = some (encHandle p j) := fun j hj => by
      rw [((Below.refl (w2.heap.size + 1) (w2.alloc (.cells #[.string p.1, .string p.2] 29))).alloc (by simp) _).cell (by show w2.heap.size < w2.heap.size + 1; omega), World.cell?_alloc_at _ _ _ _ rfl]; rcases (by omega : j = 0 ∨ j = 1) with rfl | rfl <;> rfl
     have hlk : (ps.take k).length = k := by simp; omega
     have hlk1 : (ps.take k ++ [p]).length = k + 1 := by simp; omega
     have hld : (ps.drop k).length = ps.length - k := by simp
     have hk0 : (0 : Int) ≤ (k : Int) := Int.natCast_nonneg _
     have hkl : (k : Int) ≤ (ps.length : Int) := by omega
     have szA : ((w2.alloc (.cells #[] 29))).drew.heap.size = w2.heap.size + 1 := by simp
     have szB : (((w2.alloc (.cells #[] 29)).alloc (.cells #[.string p.1, .string p.2] 29))).drew.heap.size = w2.heap.size + 1 + 1 := by simp
     have szC : (((w2.alloc (.cells #[.string p.1, .string p.2] 29)).alloc (.cells #[] 29))).drew.heap.size = w2.heap.size + 1 + 1 := by simp
     replace hempA : Own ((w2.alloc (.cells #[] 29))).drew (w.heap.size + 1) 29 2 (some ⟨w2.heap.size, 0, none⟩) 0 0 (cE 2 encHandle ([] : List ElHandle)) := hempA
     replace hempB : Own (((w2.alloc (.cells #[] 29)).alloc (.cells #[.string p.1, .string p.2] 29))).drew (w.heap.size + 1) 29 2 (some ⟨w2.heap.size, 0, none⟩) 0 0 (cE 2 encHandle ([] : List ElHandle)) := hempB
     replace hempC : Own (((w2.alloc (.cells #[.string p.1, .string p.2] 29)).alloc (.cells #[] 29))).drew (w.heap.size + 1) 29 2 (some ⟨w2.heap.size + 1, 0, none⟩) 0 0 (cE 2 encHandle ([] : List ElHandle)) := hempC
     replace hrA : RdE 2 encHandle ((w2.alloc (.cells #[] 29))).drew B A ps := hrA
     replace hrB : RdE 2 encHandle (((w2.alloc (.cells #[] 29)).alloc (.cells #[.string p.1, .string p.2] 29))).drew B A ps := hrB
     replace hrC : RdE 2 encHandle (((w2.alloc (.cells #[.string p.1, .string p.2] 29)).alloc (.cells #[] 29))).drew B A ps := hrC
     replace hbeA := hbeA.drew
     replace hbeB := hbeB.drew
     replace hbeC := hbeC.drew
     replace qa0 : (((w2.alloc (.cells #[] 29))).drew).cell? ⟨w.heap.size, 0, none⟩ = some (.string p.1) := qa0
     replace qa1 : (((w2.alloc (.cells #[] 29))).drew).cell? ⟨w.heap.size, 1, none⟩ = some (.string p.2) := qa1
     replace qb0 : ((((w2.alloc (.cells #[] 29)).alloc (.cells #[.string p.1, .string p.2] 29))).drew).cell? ⟨w.heap.size, 0, none⟩ = some (.string p.1) := qb0
     replace qb1 : ((((w2.alloc (.cells #[] 29)).alloc (.cells #[.string p.1, .string p.2] 29))).drew).cell? ⟨w.heap.size, 1, none⟩ = some (.string p.2) := qb1
     replace qc0 : ((((w2.alloc (.cells #[.string p.1, .string p.2] 29)).alloc (.cells #[] 29))).drew).cell? ⟨w.heap.size, 0, none⟩ = some (.string p.1) := qc0
     replace qc1 : ((((w2.alloc (.cells #[.string p.1, .string p.2] 29)).alloc (.cells #[] 29))).drew).cell? ⟨w.heap.size, 1, none⟩ = some (.string p.2) := qc1
     replace hxB : ∀ j, j < 2 → ((((w2.alloc (.cells #[] 29)).alloc (.cells #[.string p.1, .string p.2] 29))).drew).cell? ⟨w2.heap.size + 1, j, none⟩ = some (encHandle p j) := hxB
     replace hxC : ∀ j, j < 2 → ((((w2.alloc (.cells #[.string p.1, .string p.2] 29)).alloc (.cells #[] 29))).drew).cell? ⟨w2.heap.size, j, none⟩ = some (encHandle p j) := hxC
     clear hr2 hgA hgB hgC hgP
     rcases hS with ⟨rfl, h0, rfl⟩ | ⟨b, off, rfl, hcap, hmx⟩
     ·have hx : ps = [] := List.eq_nil_of_length_eq_zero h0
      subst hx
      obtain rfl : k = 0 := by simpa using hk
      have hdrop : ∀ {v : World}, RdE 2 encHandle v B none ([] : List ElHandle) → RdE 2 encHandle v B none (([] : List ElHandle).drop 0) := fun _ => RdE.nil
      go_wp2_with fail
      go_region_held3 (fun w' => w'.cell? ⟨w.heap.size, 0, none⟩ = some (.string p.1) ∧ w'.cell? ⟨w.heap.size, 1, none⟩ = some (.string p.2)) (first | exact ⟨s0, s1⟩ | exact ⟨qa0, qa1⟩ | exact ⟨qb0, qb1⟩ | exact ⟨qc0, qc1⟩ | exact ⟨qp0, qp1⟩ | exact ⟨t0, t1⟩ | exact ⟨v0, v1⟩ | exact ⟨y0, y1⟩ | go_keep) (first
       | (refine step_app (by rfl) (.tmp 26) (.tmp 29) _ (by rfl) (w.heap.size + 1) 29 _ 2 32 Tryz.underlying31 info_Handle rfl (by omega) (some ⟨w2.heap.size, 0, none⟩) none 0 0 0 0 _ (cE 2 encHandle ([] : List ElHandle)) (cE 2 encHandle (([] : List ElHandle).take 0)) (by simp [go_sem]) (by simp [go_sem]) hempA (RdE.len (hrA.take 0) hlk) (fun _ _ => encHandle_one _ _) (by simp only [maxLen]; omega) (by omega) (by first | omega | (simp; done) | (simp; omega)) ?_; intro T1 cap1 w3 hown1 hg1; have hb3 := grown_below hg1 (fun b hb => (Own.lt hempA hb).1) (by first | omega | (simp; done) | (simp; omega)); have t0 := (hb3.cell (p := ⟨w.heap.size, 0, none⟩) (by show w.heap.size < w.heap.size + 1; omega)).trans qa0; have t1 := (hb3.cell (p := ⟨w.heap.size, 1, none⟩) (by show w.heap.size < w.heap.size + 1; omega)).trans qa1; have hown1' := OwnE.first hown1 hlk; have z3 := hb3.size; rw [szA] at z3; have z3' : w.heap.size + 1 ≤ w3.heap.size := (by omega); have hr3' := hrA.below (hb3.mono (by omega)); have c3 := hbeA.trans (hb3.mono (by omega)); clear hown1 hg1)
       | (refine step_app (by rfl) (.tmp 26) (.tmp 29) _ (by rfl) (w.heap.size + 1) 29 _ 2 32 Tryz.underlying31 info_Handle rfl (by omega) (some ⟨w2.heap.size, 0, none⟩) none 0 0 0 0 _ (cE 2 encHandle ([] : List ElHandle)) (cE 2 encHandle (([] : List ElHandle).take 0)) (by simp [go_sem]) (by simp [go_sem]) hempB (RdE.len (hrB.take 0) hlk) (fun _ _ => encHandle_one _ _) (by simp only [maxLen]; omega) (by omega) (by first | omega | (simp; done) | (simp; omega)) ?_; intro T1 cap1 w3 hown1 hg1; have hb3 := grown_below hg1 (fun b hb => (Own.lt hempB hb).1) (by first | omega | (simp; done) | (simp; omega)); have t0 := (hb3.cell (p := ⟨w.heap.size, 0, none⟩) (by show w.heap.size < w.heap.size + 1; omega)).trans qb0; have t1 := (hb3.cell (p := ⟨w.heap.size, 1, none⟩) (by show w.heap.size < w.heap.size + 1; omega)).trans qb1; have hown1' := OwnE.first hown1 hlk; have z3 := hb3.size; rw [szB] at z3; have z3' : w.heap.size + 1 ≤ w3.heap.size := (by omega); have hr3' := hrB.below (hb3.mono (by omega)); have c3 := hbeB.trans (hb3.mono (by omega)); have hp1 := elem_kept (enc := encHandle) (y := p) (w2.heap.size + 1) hg1 (by first | omega | (simp; done) | (simp; omega)) (.inr (by first | (simp [blk]; done) | (simp [blk]; omega))) hxB; clear hown1 hg1)
       | (refine step_app (by rfl) (.tmp 26) (.tmp 29) _ (by rfl) (w.heap.size + 1) 29 _ 2 32 Tryz.underlying31 info_Handle rfl (by omega) (some ⟨w2.heap.size + 1, 0, none⟩) none 0 0 0 0 _ (cE 2 encHandle ([] : List ElHandle)) (cE 2 encHandle (([] : List ElHandle).take 0)) (by simp [go_sem]) (by simp [go_sem]) hempC (RdE.len (hrC.take 0) hlk) (fun _ _ => encHandle_one _ _) (by simp only [maxLen]; omega) (by omega) (by first | omega | (simp; done) | (simp; omega)) ?_; intro T1 cap1 w3 hown1 hg1; have hb3 := grown_below hg1 (fun b hb => (Own.lt hempC hb).1) (by first | omega | (simp; done) | (simp; omega)); have t0 := (hb3.cell (p := ⟨w.heap.size, 0, none⟩) (by show w.heap.size < w.heap.size + 1; omega)).trans qc0; have t1 := (hb3.cell (p := ⟨w.heap.size, 1, none⟩) (by show w.heap.size < w.heap.size + 1; omega)).trans qc1; have hown1' := OwnE.first hown1 hlk; have z3 := hb3.size; rw [szC] at z3; have z3' : w.heap.size + 1 ≤ w3.heap.size := (by omega); have hr3' := hrC.below (hb3.mono (by omega)); have c3 := hbeC.trans (hb3.mono (by omega)); have hp1 := elem_kept (enc := encHandle) (y := p) w2.heap.size hg1 (by first | omega | (simp; done) | (simp; omega)) (.inr (by first | (simp [blk]; done) | (simp [blk]; omega))) hxC; clear hown1 hg1)
       | (refine step_app (by rfl) (.tmp 30) (.tmp 32) _ (by rfl) (w.heap.size + 1) 29 _ 2 32 Tryz.underlying31 info_Handle rfl (by omega) T1 (some ⟨w3.heap.size, 0, none⟩) 0 cap1 1 1 _ (cE 2 encHandle (([] : List ElHandle).take 0)) (encHandle p) (by simp [go_sem]) (by simp [go_sem]) (Own.below (OwnE.own hown1' hlk) ((Below.refl _ _).alloc (Nat.le_refl _) _)) (rd_elem _ _ _ _ (fun j hj => by rcases (by omega : j = 0 ∨ j = 1) with rfl | rfl <;> rfl)) (fun _ _ => encHandle_one _ _) (by simp only [maxLen]; omega) (by omega) (by first | omega | (simp; done) | (simp; omega)) ?_; intro T2 cap2 w4 hown2 hg2; have hb4 := ((Below.refl (w.heap.size + 1) w3).alloc (by omega) _).trans (grown_below hg2 (fun b hb => (Own.lt hown1' hb).1) (by first | omega | (simp; done) | (simp; omega))); have hown2' := OwnE.push (by omega) hlk hown2; have z4 := hb4.size; have v0 := (hb4.cell (p := ⟨w.heap.size, 0, none⟩) (by show w.heap.size < w.heap.size + 1; omega)).trans t0; have v1 := (hb4.cell (p := ⟨w.heap.size, 1, none⟩) (by show w.heap.size < w.heap.size + 1; omega)).trans t1; clear hown2 hg2)
       | (refine step_app (by rfl) (.tmp 30) (.tmp 32) _ (by rfl) (w.heap.size + 1) 29 _ 2 32 Tryz.underlying31 info_Handle rfl (by omega) T1 (some ⟨w2.heap.size + 1, 0, none⟩) 0 cap1 1 1 _ (cE 2 encHandle (([] : List ElHandle).take 0)) (encHandle p) (by simp [go_sem]) (by simp [go_sem]) (OwnE.own hown1' hlk) hp1 (fun _ _ => encHandle_one _ _) (by simp only [maxLen]; omega) (by omega) (by first | omega | (simp; done) | (simp; omega)) ?_; intro T2 cap2 w4 hown2 hg2; have hb4 := grown_below hg2 (fun b hb => (Own.lt hown1' hb).1) (by first | omega | (simp; done) | (simp; omega)); have hown2' := OwnE.push (by omega) hlk hown2; have z4 := hb4.size; have v0 := (hb4.cell (p := ⟨w.heap.size, 0, none⟩) (by show w.heap.size < w.heap.size + 1; omega)).trans t0; have v1 := (hb4.cell (p := ⟨w.heap.size, 1, none⟩) (by show w.heap.size < w.heap.size + 1; omega)).trans t1; clear hown2 hg2)
       | (refine step_app (by rfl) (.tmp 30) (.tmp 32) _ (by rfl) (w.heap.size + 1) 29 _ 2 32 Tryz.underlying31 info_Handle rfl (by omega) T1 (some ⟨w2.heap.size, 0, none⟩) 0 cap1 1 1 _ (cE 2 encHandle (([] : List ElHandle).take 0)) (encHandle p) (by simp [go_sem]) (by simp [go_sem]) (OwnE.own hown1' hlk) hp1 (fun _ _ => encHandle_one _ _) (by simp only [maxLen]; omega) (by omega) (by first | omega | (simp; done) | (simp; omega)) ?_; intro T2 cap2 w4 hown2 hg2; have hb4 := grown_below hg2 (fun b hb => (Own.lt hown1' hb).1) (by first | omega | (simp; done) | (simp; omega)); have hown2' := OwnE.push (by omega) hlk hown2; have z4 := hb4.size; have v0 := (hb4.cell (p := ⟨w.heap.size, 0, none⟩) (by show w.heap.size < w.heap.size + 1; omega)).trans t0; have v1 := (hb4.cell (p := ⟨w.heap.size, 1, none⟩) (by show w.heap.size < w.heap.size + 1; omega)).trans t1; clear hown2 hg2)
       | (refine step_app (by rfl) (.tmp 33) (.tmp 36) _ (by rfl) (w.heap.size + 1) 29 _ 2 32 Tryz.underlying31 info_Handle rfl (by omega) T2 none (0 + 1) cap2 0 0 _ (cE 2 encHandle ((([] : List ElHandle).take 0) ++ [p])) (cE 2 encHandle (([] : List ElHandle).drop 0)) (by simp [go_sem]) (by simp [go_sem]) (OwnE.own hown2' hlk1) (RdE.len ((hdrop hr3').below (hb4.mono (by omega))) hld) (fun _ _ => encHandle_one _ _) (by simp only [maxLen]; omega) (by omega) (by first | omega | (simp; done) | (simp; omega)) ?_; intro T3 cap3 w5 hown3 hg3; have hb5 := grown_below hg3 (fun b hb => (Own.lt hown2' hb).1) (by omega); have y0 := (hb5.cell (p := ⟨w.heap.size, 0, none⟩) (by show w.heap.size < w.heap.size + 1; omega)).trans v0; have y1 := (hb5.cell (p := ⟨w.heap.size, 1, none⟩) (by show w.heap.size < w.heap.size + 1; omega)).trans v1; have hown3' := OwnE.join (by omega) hlk1 hld hown3; rw [← hins.out] at hown3'; clear hown3 hg3))
      all_goals
       have hlen : 0 + 1 + 0 = (insF ([] : List ElHandle) p).length := by rw [insF_len]; first | omega | rfl
       have c5 := (c3.trans (hb4.mono (by omega))).trans (hb5.mono (by omega))
       have hr5 : RdE 2 encHandle w5 B none ([] : List ElHandle) := (hr3'.below (hb4.mono (by omega))).below (hb5.mono (by omega))
       have hs5 : w.heap.size + 1 ≤ w5.heap.size := by have := hb5.size; omega
       clear hb3 hb4 hb5 hr3' hown1' hown2' hempA hempB hempC hrA hrB hrC hbeA hbeB hbeC qa0 qa1 qb0 qb1 qc0 qc1 qp0 qp1 t0 t1 v0 v1 y0 y1 s0 s1 hbw2 hxB hxC c3 hdrop
       rw [hlen]
       by_cases hv2 : fvB (insF ([] : List ElHandle) p) = true
       ·have HE := Lib.hid (folOf_yes hv hv2)
        go_wp2_with (go_at_call 80; refine (specFollowersValid_any _ _ _ (insF ([] : List ElHandle) p) w5 hown3'.rd (Nat.le_refl _) (by omega) HSI.out).mono ?_; rintro e w6 ⟨rfl, hb6⟩)
        go_ret2
        rw [HE.out.1, HE.out.2]
        exact ⟨T3, cap3, rfl, Own.more (Own.below hown3' hb6) (by omega), c5.trans (hb6.mono (by omega))⟩
       ·have hv2' : fvB (insF ([] : List ElHandle) p) = false := by simpa using hv2
        have HE := Lib.hid (folOf_no hv hv2')
        clear hv2
        go_wp2_with (first
         | (go_at_call 80; refine (specFollowersValid_any _ _ _ (insF ([] : List ElHandle) p) w5 hown3'.rd (Nat.le_refl _) (by omega) HSI.out).mono ?_; rintro e w6 ⟨rfl, hb6⟩; have hs6 := hb6.size; have c6 := c5.trans (hb6.mono (by omega)); have c6' := c6.alloc (by omega) (.cells #[] 29); have hr6 := (hr5.below (hb6.mono (by omega))).alloc (by omega) (.cells #[] 29); have own6 : Own (w6.alloc (.cells #[] 29)) w.heap.size 29 2 (some ⟨w6.heap.size, 0, none⟩) 0 0 (cE 2 encHandle ([] : List ElHandle)) := Own.more (Own.lit w6 29 2 0 #[] (cE 2 encHandle ([] : List ElHandle)) (Nat.zero_le _) rfl) (by omega))
         | (at_builtin; refine wpList_app rfl (.tmp 41) (.tmp 42) _ rfl w.heap.size 29 _ 2 32 Tryz.underlying31 info_Handle rfl (by omega) (some ⟨w6.heap.size, 0, none⟩) none 0 0 0 0 B (cE 2 encHandle ([] : List ElHandle)) (cE 2 encHandle ([] : List ElHandle)) rfl rfl own6 hr6 (fun _ _ => encHandle_one _ _) (by simp only [maxLen]; omega) (by omega) (by simp; omega) ?_; intro T8 cap8 w8 hown8 hg8))
        go_ret2
        rw [HE.out.1, HE.out.2]
        exact ⟨T8, cap8, by simp, OwnE.first hown8 rfl, c6'.trans (grown_below hg8 (fun b hb => (Own.lt own6 hb).1) (by simp; omega))⟩
     ·unfold maxLen at hmx
      have hkc : (k : Int) ≤ (cap : Int) := by omega
      have hlc : (ps.length : Int) ≤ (cap : Int) := by omega
      have hkn : k = ps.length := by omega
      have hld0 : (ps.drop k).length = 0 := by rw [hld]; omega
      clear hld
      have hld := hld0
      have hps : ps.length ≤ k := by omega
      by_cases hck : cap = k
      ·have hck2 := hck.symm
       subst hck2
       have hkn2 := hkn
       have hkl2 : ps.length - k = 0 := by omega
       have hdrop : ∀ {v : World}, RdE 2 encHandle v B (some ⟨b, off, none⟩) ps → RdE 2 encHandle v B (some ⟨b, off, none⟩) (ps.drop k) := fun _ hp => by rw [hld0] at hp; omega
       clear hkn hkn2
       go_wp2_with fail
       go_region_held3 (fun w' => w'.cell? ⟨w.heap.size, 0, none⟩ = some (.string p.1) ∧ w'.cell? ⟨w.heap.size, 1, none⟩ = some (.string p.2)) (first | exact ⟨s0, s1⟩ | exact ⟨qa0, qa1⟩ | exact ⟨qb0, qb1⟩ | exact ⟨qc0, qc1⟩ | exact ⟨qp0, qp1⟩ | exact ⟨t0, t1⟩ | exact ⟨v0, v1⟩ | exact ⟨y0, y1⟩ | go_keep) (first
        | (refine step_app (by rfl) (.tmp 26) (.tmp 29) _ (by rfl) (w.heap.size + 1) 29 _ 2 32 Tryz.underlying31 info_Handle rfl (by omega) (some ⟨w2.heap.size, 0, none⟩) (some ⟨b, off, none⟩) 0 0 k k _ (cE 2 encHandle ([] : List ElHandle)) (cE 2 encHandle (ps.take k)) (by simp [go_sem]) (by simp [go_sem]) hempA (RdE.len (hrA.take k) hlk) (fun _ _ => encHandle_one _ _) (by simp only [maxLen]; omega) (by omega) (by first | omega | (simp; done) | (simp; omega)) ?_; intro T1 cap1 w3 hown1 hg1; have hb3 := grown_below hg1 (fun b hb => (Own.lt hempA hb).1) (by first | omega | (simp; done) | (simp; omega)); have t0 := (hb3.cell (p := ⟨w.heap.size, 0, none⟩) (by show w.heap.size < w.heap.size + 1; omega)).trans qa0; have t1 := (hb3.cell (p := ⟨w.heap.size, 1, none⟩) (by show w.heap.size < w.heap.size + 1; omega)).trans qa1; have hown1' := OwnE.first hown1 hlk; have z3 := hb3.size; rw [szA] at z3; have z3' : w.heap.size + 1 ≤ w3.heap.size := (by omega); have hr3' := hrA.below (hb3.mono (by omega)); have c3 := hbeA.trans (hb3.mono (by omega)); clear hown1 hg1)
        | (refine step_app (by rfl) (.tmp 26) (.tmp 29) _ (by rfl) (w.heap.size + 1) 29 _ 2 32 Tryz.underlying31 info_Handle rfl (by omega) (some ⟨w2.heap.size, 0, none⟩) (some ⟨b, off, none⟩) 0 0 k k _ (cE 2 encHandle ([] : List ElHandle)) (cE 2 encHandle (ps.take k)) (by simp [go_sem]) (by simp [go_sem]) hempB (RdE.len (hrB.take k) hlk) (fun _ _ => encHandle_one _ _) (by simp only [maxLen]; omega) (by omega) (by first | omega | (simp; done) | (simp; omega)) ?_; intro T1 cap1 w3 hown1 hg1; have hb3 := grown_below hg1 (fun b hb => (Own.lt hempB hb).1) (by first | omega | (simp; done) | (simp; omega)); have t0 := (hb3.cell (p := ⟨w.heap.size, 0, none⟩) (by show w.heap.size < w.heap.size + 1; omega)).trans qb0; have t1 := (hb3.cell (p := ⟨w.heap.size, 1, none⟩) (by show w.heap.size < w.heap.size + 1; omega)).trans qb1; have hown1' := OwnE.first hown1 hlk; have z3 := hb3.size; rw [szB] at z3; have z3' : w.heap.size + 1 ≤ w3.heap.size := (by omega); have hr3' := hrB.below (hb3.mono (by omega)); have c3 := hbeB.trans (hb3.mono (by omega)); have hp1 := elem_kept (enc := encHandle) (y := p) (w2.heap.size + 1) hg1 (by first | omega | (simp; done) | (simp; omega)) (.inr (by first | (simp [blk]; done) | (simp [blk]; omega))) hxB; clear hown1 hg1)
        | (refine step_app (by rfl) (.tmp 26) (.tmp 29) _ (by rfl) (w.heap.size + 1) 29 _ 2 32 Tryz.underlying31 info_Handle rfl (by omega) (some ⟨w2.heap.size + 1, 0, none⟩) (some ⟨b, off, none⟩) 0 0 k k _ (cE 2 encHandle ([] : List ElHandle)) (cE 2 encHandle (ps.take k)) (by simp [go_sem]) (by simp [go_sem]) hempC (RdE.len (hrC.take k) hlk) (fun _ _ => encHandle_one _ _) (by simp only [maxLen]; omega) (by omega) (by first | omega | (simp; done) | (simp; omega)) ?_; intro T1 cap1 w3 hown1 hg1; have hb3 := grown_below hg1 (fun b hb => (Own.lt hempC hb).1) (by first | omega | (simp; done) | (simp; omega)); have t0 := (hb3.cell (p := ⟨w.heap.size, 0, none⟩) (by show w.heap.size < w.heap.size + 1; omega)).trans qc0; have t1 := (hb3.cell (p := ⟨w.heap.size, 1, none⟩) (by show w.heap.size < w.heap.size + 1; omega)).trans qc1; have hown1' := OwnE.first hown1 hlk; have z3 := hb3.size; rw [szC] at z3; have z3' : w.heap.size + 1 ≤ w3.heap.size := (by omega); have hr3' := hrC.below (hb3.mono (by omega)); have c3 := hbeC.trans (hb3.mono (by omega)); have hp1 := elem_kept (enc := encHandle) (y := p) w2.heap.size hg1 (by first | omega | (simp; done) | (simp; omega)) (.inr (by first | (simp [blk]; done) | (simp [blk]; omega))) hxC; clear hown1 hg1)
        | (refine step_app (by rfl) (.tmp 30) (.tmp 32) _ (by rfl) (w.heap.size + 1) 29 _ 2 32 Tryz.underlying31 info_Handle rfl (by omega) T1 (some ⟨w3.heap.size, 0, none⟩) k cap1 1 1 _ (cE 2 encHandle (ps.take k)) (encHandle p) (by simp [go_sem]) (by simp [go_sem]) (Own.below (OwnE.own hown1' hlk) ((Below.refl _ _).alloc (Nat.le_refl _) _)) (rd_elem _ _ _ _ (fun j hj => by rcases (by omega : j = 0 ∨ j = 1) with rfl | rfl <;> rfl)) (fun _ _ => encHandle_one _ _) (by simp only [maxLen]; omega) (by omega) (by first | omega | (simp; done) | (simp; omega)) ?_; intro T2 cap2 w4 hown2 hg2; have hb4 := ((Below.refl (w.heap.size + 1) w3).alloc (by omega) _).trans (grown_below hg2 (fun b hb => (Own.lt hown1' hb).1) (by first | omega | (simp; done) | (simp; omega))); have hown2' := OwnE.push (by omega) hlk hown2; have z4 := hb4.size; have v0 := (hb4.cell (p := ⟨w.heap.size, 0, none⟩) (by show w.heap.size < w.heap.size + 1; omega)).trans t0; have v1 := (hb4.cell (p := ⟨w.heap.size, 1, none⟩) (by show w.heap.size < w.heap.size + 1; omega)).trans t1; clear hown2 hg2)
        | (refine step_app (by rfl) (.tmp 30) (.tmp 32) _ (by rfl) (w.heap.size + 1) 29 _ 2 32 Tryz.underlying31 info_Handle rfl (by omega) T1 (some ⟨w2.heap.size + 1, 0, none⟩) k cap1 1 1 _ (cE 2 encHandle (ps.take k)) (encHandle p) (by simp [go_sem]) (by simp [go_sem]) (OwnE.own hown1' hlk) hp1 (fun _ _ => encHandle_one _ _) (by simp only [maxLen]; omega) (by omega) (by first | omega | (simp; done) | (simp; omega)) ?_; intro T2 cap2 w4 hown2 hg2; have hb4 := grown_below hg2 (fun b hb => (Own.lt hown1' hb).1) (by first | omega | (simp; done) | (simp; omega)); have hown2' := OwnE.push (by omega) hlk hown2; have z4 := hb4.size; have v0 := (hb4.cell (p := ⟨w.heap.size, 0, none⟩) (by show w.heap.size < w.heap.size + 1; omega)).trans t0; have v1 := (hb4.cell (p := ⟨w.heap.size, 1, none⟩) (by show w.heap.size < w.heap.size + 1; omega)).trans t1; clear hown2 hg2)
        | (refine step_app (by rfl) (.tmp 30) (.tmp 32) _ (by rfl) (w.heap.size + 1) 29 _ 2 32 Tryz.underlying31 info_Handle rfl (by omega) T1 (some ⟨w2.heap.size, 0, none⟩) k cap1 1 1 _ (cE 2 encHandle (ps.take k)) (encHandle p) (by simp [go_sem]) (by simp [go_sem]) (OwnE.own hown1' hlk) hp1 (fun _ _ => encHandle_one _ _) (by simp only [maxLen]; omega) (by omega) (by first | omega | (simp; done) | (simp; omega)) ?_; intro T2 cap2 w4 hown2 hg2; have hb4 := grown_below hg2 (fun b hb => (Own.lt hown1' hb).1) (by first | omega | (simp; done) | (simp; omega)); have hown2' := OwnE.push (by omega) hlk hown2; have z4 := hb4.size; have v0 := (hb4.cell (p := ⟨w.heap.size, 0, none⟩) (by show w.heap.size < w.heap.size + 1; omega)).trans t0; have v1 := (hb4.cell (p := ⟨w.heap.size, 1, none⟩) (by show w.heap.size < w.heap.size + 1; omega)).trans t1; clear hown2 hg2)
        | (refine step_app (by rfl) (.tmp 33) (.tmp 36) _ (by rfl) (w.heap.size + 1) 29 _ 2 32 Tryz.underlying31 info_Handle rfl (by omega) T2 (some ⟨b, off, none⟩) (k + 1) cap2 0 0 _ (cE 2 encHandle ((ps.take k) ++ [p])) (cE 2 encHandle (ps.drop k)) (by simp [go_sem]) (by simp [go_sem]) (OwnE.own hown2' hlk1) (RdE.len ((hdrop hr3').below (hb4.mono (by omega))) hld) (fun _ _ => encHandle_one _ _) (by simp only [maxLen]; omega) (by omega) (by first | omega | (simp; done) | (simp; omega)) ?_; intro T3 cap3 w5 hown3 hg3; have hb5 := grown_below hg3 (fun b hb => (Own.lt hown2' hb).1) (by omega); have y0 := (hb5.cell (p := ⟨w.heap.size, 0, none⟩) (by show w.heap.size < w.heap.size + 1; omega)).trans v0; have y1 := (hb5.cell (p := ⟨w.heap.size, 1, none⟩) (by show w.heap.size < w.heap.size + 1; omega)).trans v1; have hown3' := OwnE.join (by omega) hlk1 hld hown3; rw [← hins.out] at hown3'; clear hown3 hg3))
       all_goals
        have hlen : k + 1 + 0 = (insF ps p).length := by rw [insF_len]; first | omega | rfl
        have c5 := (c3.trans (hb4.mono (by omega))).trans (hb5.mono (by omega))
        have hr5 : RdE 2 encHandle w5 B (some ⟨b, off, none⟩) ps := (hr3'.below (hb4.mono (by omega))).below (hb5.mono (by omega))
        have hs5 : w.heap.size + 1 ≤ w5.heap.size := by have := hb5.size; omega
        clear hb3 hb4 hb5 hr3' hown1' hown2' hempA hempB hempC hrA hrB hrC hbeA hbeB hbeC qa0 qa1 qb0 qb1 qc0 qc1 qp0 qp1 t0 t1 v0 v1 y0 y1 s0 s1 hbw2 hxB hxC c3 hdrop
        rw [hlen]
        by_cases hv2 : fvB (insF ps p) = true
        ·have HE := Lib.hid (folOf_yes hv hv2)
         go_wp2_with (go_at_call 80; refine (specFollowersValid_any _ _ _ (insF ps p) w5 hown3'.rd (Nat.le_refl _) (by omega) HSI.out).mono ?_; rintro e w6 ⟨rfl, hb6⟩)
         go_ret2
         rw [HE.out.1, HE.out.2]
         exact ⟨T3, cap3, rfl, Own.more (Own.below hown3' hb6) (by omega), c5.trans (hb6.mono (by omega))⟩
        ·have hv2' : fvB (insF ps p) = false := by simpa using hv2
         have HE := Lib.hid (folOf_no hv hv2')
         clear hv2
         go_wp2_with (first
          | (go_at_call 80; refine (specFollowersValid_any _ _ _ (insF ps p) w5 hown3'.rd (Nat.le_refl _) (by omega) HSI.out).mono ?_; rintro e w6 ⟨rfl, hb6⟩; have hs6 := hb6.size; have c6 := c5.trans (hb6.mono (by omega)); have c6' := c6.alloc (by omega) (.cells #[] 29); have hr6 := (hr5.below (hb6.mono (by omega))).alloc (by omega) (.cells #[] 29); have own6 : Own (w6.alloc (.cells #[] 29)) w.heap.size 29 2 (some ⟨w6.heap.size, 0, none⟩) 0 0 (cE 2 encHandle ([] : List ElHandle)) := Own.more (Own.lit w6 29 2 0 #[] (cE 2 encHandle ([] : List ElHandle)) (Nat.zero_le _) rfl) (by omega))
          | (at_builtin; refine wpList_app rfl (.tmp 41) (.tmp 42) _ rfl w.heap.size 29 _ 2 32 Tryz.underlying31 info_Handle rfl (by omega) (some ⟨w6.heap.size, 0, none⟩) (some ⟨b, off, none⟩) 0 0 ps.length k B (cE 2 encHandle ([] : List ElHandle)) (cE 2 encHandle ps) rfl rfl own6 hr6 (fun _ _ => encHandle_one _ _) (by simp only [maxLen]; omega) (by omega) (by simp; omega) ?_; intro T8 cap8 w8 hown8 hg8))
         go_ret2
         rw [HE.out.1, HE.out.2]
         exact ⟨T8, cap8, by simp, OwnE.first hown8 rfl, c6'.trans (grown_below hg8 (fun b hb => (Own.lt own6 hb).1) (by simp; omega))⟩
      ·have hdrop : ∀ {v : World}, RdE 2 encHandle v B (some ⟨b, off, none⟩) ps → RdE 2 encHandle v B (some ⟨b, off + k * 2, none⟩) (ps.drop k) := fun h => RdE.drop h
       clear hkn
       go_wp2_with fail
       go_region_held3 (fun w' => w'.cell? ⟨w.heap.size, 0, none⟩ = some (.string p.1) ∧ w'.cell? ⟨w.heap.size, 1, none⟩ = some (.string p.2)) (first | exact ⟨s0, s1⟩ | exact ⟨qa0, qa1⟩ | exact ⟨qb0, qb1⟩ | exact ⟨qc0, qc1⟩ | exact ⟨qp0, qp1⟩ | exact ⟨t0, t1⟩ | exact ⟨v0, v1⟩ | exact ⟨y0, y1⟩ | go_keep) (first
        | (refine step_app (by rfl) (.tmp 26) (.tmp 29) _ (by rfl) (w.heap.size + 1) 29 _ 2 32 Tryz.underlying31 info_Handle rfl (by omega) (some ⟨w2.heap.size, 0, none⟩) (some ⟨b, off, none⟩) 0 0 k cap _ (cE 2 encHandle ([] : List ElHandle)) (cE 2 encHandle (ps.take k)) (by simp [go_sem]) (by simp [go_sem]) hempA (RdE.len (hrA.take k) hlk) (fun _ _ => encHandle_one _ _) (by simp only [maxLen]; omega) (by omega) (by first | omega | (simp; done) | (simp; omega)) ?_; intro T1 cap1 w3 hown1 hg1; have hb3 := grown_below hg1 (fun b hb => (Own.lt hempA hb).1) (by first | omega | (simp; done) | (simp; omega)); have t0 := (hb3.cell (p := ⟨w.heap.size, 0, none⟩) (by show w.heap.size < w.heap.size + 1; omega)).trans qa0; have t1 := (hb3.cell (p := ⟨w.heap.size, 1, none⟩) (by show w.heap.size < w.heap.size + 1; omega)).trans qa1; have hown1' := OwnE.first hown1 hlk; have z3 := hb3.size; rw [szA] at z3; have z3' : w.heap.size + 1 ≤ w3.heap.size := (by omega); have hr3' := hrA.below (hb3.mono (by omega)); have c3 := hbeA.trans (hb3.mono (by omega)); clear hown1 hg1)
        | (refine step_app (by rfl) (.tmp 26) (.tmp 29) _ (by rfl) (w.heap.size + 1) 29 _ 2 32 Tryz.underlying31 info_Handle rfl (by omega) (some ⟨w2.heap.size, 0, none⟩) (some ⟨b, off, none⟩) 0 0 k cap _ (cE 2 encHandle ([] : List ElHandle)) (cE 2 encHandle (ps.take k)) (by simp [go_sem]) (by simp [go_sem]) hempB (RdE.len (hrB.take k) hlk) (fun _ _ => encHandle_one _ _) (by simp only [maxLen]; omega) (by omega) (by first | omega | (simp; done) | (simp; omega)) ?_; intro T1 cap1 w3 hown1 hg1; have hb3 := grown_below hg1 (fun b hb => (Own.lt hempB hb).1) (by first | omega | (simp; done) | (simp; omega)); have t0 := (hb3.cell (p := ⟨w.heap.size, 0, none⟩) (by show w.heap.size < w.heap.size + 1; omega)).trans qb0; have t1 := (hb3.cell (p := ⟨w.heap.size, 1, none⟩) (by show w.heap.size < w.heap.size + 1; omega)).trans qb1; have hown1' := OwnE.first hown1 hlk; have z3 := hb3.size; rw [szB] at z3; have z3' : w.heap.size + 1 ≤ w3.heap.size := (by omega); have hr3' := hrB.below (hb3.mono (by omega)); have c3 := hbeB.trans (hb3.mono (by omega)); have hp1 := elem_kept (enc := encHandle) (y := p) (w2.heap.size + 1) hg1 (by first | omega | (simp; done) | (simp; omega)) (.inr (by first | (simp [blk]; done) | (simp [blk]; omega))) hxB; clear hown1 hg1)
        | (refine step_app (by rfl) (.tmp 26) (.tmp 29) _ (by rfl) (w.heap.size + 1) 29 _ 2 32 Tryz.underlying31 info_Handle rfl (by omega) (some ⟨w2.heap.size + 1, 0, none⟩) (some ⟨b, off, none⟩) 0 0 k cap _ (cE 2 encHandle ([] : List ElHandle)) (cE 2 encHandle (ps.take k)) (by simp [go_sem]) (by simp [go_sem]) hempC (RdE.len (hrC.take k) hlk) (fun _ _ => encHandle_one _ _) (by simp only [maxLen]; omega) (by omega) (by first | omega | (simp; done) | (simp; omega)) ?_; intro T1 cap1 w3 hown1 hg1; have hb3 := grown_below hg1 (fun b hb => (Own.lt hempC hb).1) (by first | omega | (simp; done) | (simp; omega)); have t0 := (hb3.cell (p := ⟨w.heap.size, 0, none⟩) (by show w.heap.size < w.heap.size + 1; omega)).trans qc0; have t1 := (hb3.cell (p := ⟨w.heap.size, 1, none⟩) (by show w.heap.size < w.heap.size + 1; omega)).trans qc1; have hown1' := OwnE.first hown1 hlk; have z3 := hb3.size; rw [szC] at z3; have z3' : w.heap.size + 1 ≤ w3.heap.size := (by omega); have hr3' := hrC.below (hb3.mono (by omega)); have c3 := hbeC.trans (hb3.mono (by omega)); have hp1 := elem_kept (enc := encHandle) (y := p) w2.heap.size hg1 (by first | omega | (simp; done) | (simp; omega)) (.inr (by first | (simp [blk]; done) | (simp [blk]; omega))) hxC; clear hown1 hg1)
        | (refine step_app (by rfl) (.tmp 30) (.tmp 32) _ (by rfl) (w.heap.size + 1) 29 _ 2 32 Tryz.underlying31 info_Handle rfl (by omega) T1 (some ⟨w3.heap.size, 0, none⟩) k cap1 1 1 _ (cE 2 encHandle (ps.take k)) (encHandle p) (by simp [go_sem]) (by simp [go_sem]) (Own.below (OwnE.own hown1' hlk) ((Below.refl _ _).alloc (Nat.le_refl _) _)) (rd_elem _ _ _ _ (fun j hj => by rcases (by omega : j = 0 ∨ j = 1) with rfl | rfl <;> rfl)) (fun _ _ => encHandle_one _ _) (by simp only [maxLen]; omega) (by omega) (by first | omega | (simp; done) | (simp; omega)) ?_; intro T2 cap2 w4 hown2 hg2; have hb4 := ((Below.refl (w.heap.size + 1) w3).alloc (by omega) _).trans (grown_below hg2 (fun b hb => (Own.lt hown1' hb).1) (by first | omega | (simp; done) | (simp; omega))); have hown2' := OwnE.push (by omega) hlk hown2; have z4 := hb4.size; have v0 := (hb4.cell (p := ⟨w.heap.size, 0, none⟩) (by show w.heap.size < w.heap.size + 1; omega)).trans t0; have v1 := (hb4.cell (p := ⟨w.heap.size, 1, none⟩) (by show w.heap.size < w.heap.size + 1; omega)).trans t1; clear hown2 hg2)
        | (refine step_app (by rfl) (.tmp 30) (.tmp 32) _ (by rfl) (w.heap.size + 1) 29 _ 2 32 Tryz.underlying31 info_Handle rfl (by omega) T1 (some ⟨w2.heap.size + 1, 0, none⟩) k cap1 1 1 _ (cE 2 encHandle (ps.take k)) (encHandle p) (by simp [go_sem]) (by simp [go_sem]) (OwnE.own hown1' hlk) hp1 (fun _ _ => encHandle_one _ _) (by simp only [maxLen]; omega) (by omega) (by first | omega | (simp; done) | (simp; omega)) ?_; intro T2 cap2 w4 hown2 hg2; have hb4 := grown_below hg2 (fun b hb => (Own.lt hown1' hb).1) (by first | omega | (simp; done) | (simp; omega)); have hown2' := OwnE.push (by omega) hlk hown2; have z4 := hb4.size; have v0 := (hb4.cell (p := ⟨w.heap.size, 0, none⟩) (by show w.heap.size < w.heap.size + 1; omega)).trans t0; have v1 := (hb4.cell (p := ⟨w.heap.size, 1, none⟩) (by show w.heap.size < w.heap.size + 1; omega)).trans t1; clear hown2 hg2)
        | (refine step_app (by rfl) (.tmp 30) (.tmp 32) _ (by rfl) (w.heap.size + 1) 29 _ 2 32 Tryz.underlying31 info_Handle rfl (by omega) T1 (some ⟨w2.heap.size, 0, none⟩) k cap1 1 1 _ (cE 2 encHandle (ps.take k)) (encHandle p) (by simp [go_sem]) (by simp [go_sem]) (OwnE.own hown1' hlk) hp1 (fun _ _ => encHandle_one _ _) (by simp only [maxLen]; omega) (by omega) (by first | omega | (simp; done) | (simp; omega)) ?_; intro T2 cap2 w4 hown2 hg2; have hb4 := grown_below hg2 (fun b hb => (Own.lt hown1' hb).1) (by first | omega | (simp; done) | (simp; omega)); have hown2' := OwnE.push (by omega) hlk hown2; have z4 := hb4.size; have v0 := (hb4.cell (p := ⟨w.heap.size, 0, none⟩) (by show w.heap.size < w.heap.size + 1; omega)).trans t0; have v1 := (hb4.cell (p := ⟨w.heap.size, 1, none⟩) (by show w.heap.size < w.heap.size + 1; omega)).trans t1; clear hown2 hg2)
        | (refine step_app (by rfl) (.tmp 33) (.tmp 36) _ (by rfl) (w.heap.size + 1) 29 _ 2 32 Tryz.underlying31 info_Handle rfl (by omega) T2 (some ⟨b, off + k * 2, none⟩) (k + 1) cap2 0 (cap - k) _ (cE 2 encHandle ((ps.take k) ++ [p])) (cE 2 encHandle (ps.drop k)) (by simp [go_sem]) (by simp [go_sem]) (OwnE.own hown2' hlk1) (RdE.len ((hdrop hr3').below (hb4.mono (by omega))) hld) (fun _ _ => encHandle_one _ _) (by simp only [maxLen]; omega) (by omega) (by first | omega | (simp; done) | (simp; omega)) ?_; intro T3 cap3 w5 hown3 hg3; have hb5 := grown_below hg3 (fun b hb => (Own.lt hown2' hb).1) (by omega); have y0 := (hb5.cell (p := ⟨w.heap.size, 0, none⟩) (by show w.heap.size < w.heap.size + 1; omega)).trans v0; have y1 := (hb5.cell (p := ⟨w.heap.size, 1, none⟩) (by show w.heap.size < w.heap.size + 1; omega)).trans v1; have hown3' := OwnE.join (by omega) hlk1 hld hown3; rw [← hins.out] at hown3'; clear hown3 hg3))
       all_goals
        have hlen : k + 1 + 0 = (insF ps p).length := by rw [insF_len]; first | omega | rfl
        have c5 := (c3.trans (hb4.mono (by omega))).trans (hb5.mono (by omega))
        have hr5 : RdE 2 encHandle w5 B (some ⟨b, off, none⟩) ps := (hr3'.below (hb4.mono (by omega))).below (hb5.mono (by omega))
        have hs5 : w.heap.size + 1 ≤ w5.heap.size := by have := hb5.size; omega
        clear hb3 hb4 hb5 hr3' hown1' hown2' hempA hempB hempC hrA hrB hrC hbeA hbeB hbeC qa0 qa1 qb0 qb1 qc0 qc1 qp0 qp1 t0 t1 v0 v1 y0 y1 s0 s1 hbw2 hxB hxC c3 hdrop
        rw [hlen]
        by_cases hv2 : fvB (insF ps p) = true
        ·have HE := Lib.hid (folOf_yes hv hv2)
         go_wp2_with (go_at_call 80; refine (specFollowersValid_any _ _ _ (insF ps p) w5 hown3'.rd (Nat.le_refl _) (by omega) HSI.out).mono ?_; rintro e w6 ⟨rfl, hb6⟩)
         go_ret2
         rw [HE.out.1, HE.out.2]
         exact ⟨T3, cap3, rfl, Own.more (Own.below hown3' hb6) (by omega), c5.trans (hb6.mono (by omega))⟩
        ·have hv2' : fvB (insF ps p) = false := by simpa using hv2
         have HE := Lib.hid (folOf_no hv hv2')
         clear hv2
         go_wp2_with (first
          | (go_at_call 80; refine (specFollowersValid_any _ _ _ (insF ps p) w5 hown3'.rd (Nat.le_refl _) (by omega) HSI.out).mono ?_; rintro e w6 ⟨rfl, hb6⟩; have hs6 := hb6.size; have c6 := c5.trans (hb6.mono (by omega)); have c6' := c6.alloc (by omega) (.cells #[] 29); have hr6 := (hr5.below (hb6.mono (by omega))).alloc (by omega) (.cells #[] 29); have own6 : Own (w6.alloc (.cells #[] 29)) w.heap.size 29 2 (some ⟨w6.heap.size, 0, none⟩) 0 0 (cE 2 encHandle ([] : List ElHandle)) := Own.more (Own.lit w6 29 2 0 #[] (cE 2 encHandle ([] : List ElHandle)) (Nat.zero_le _) rfl) (by omega))
          | (at_builtin; refine wpList_app rfl (.tmp 41) (.tmp 42) _ rfl w.heap.size 29 _ 2 32 Tryz.underlying31 info_Handle rfl (by omega) (some ⟨w6.heap.size, 0, none⟩) (some ⟨b, off, none⟩) 0 0 ps.length cap B (cE 2 encHandle ([] : List ElHandle)) (cE 2 encHandle ps) rfl rfl own6 hr6 (fun _ _ => encHandle_one _ _) (by simp only [maxLen]; omega) (by omega) (by simp; omega) ?_; intro T8 cap8 w8 hown8 hg8))
         go_ret2
         rw [HE.out.1, HE.out.2]
         exact ⟨T8, cap8, by simp, OwnE.first hown8 rfl, c6'.trans (grown_below hg8 (fun b hb => (Own.lt own6 hb).1) (by simp; omega))⟩
 ·have hv' : fvB ps = false := by simpa using hv
  obtain ⟨e1, e2⟩ := folOf_bad (p := p) hv'
  rw [e1, e2]
  clear hv e1 e2
  go_enter Tryz.func37, Tryz.ntmps37
  go_wp2_with (go_at_call 80; refine (specFollowersValid_any _ _ B ps _ (h.below (hbA.mono hB)) (Nat.le_trans hB hbA.size) hl HSZ.out).mono ?_; rintro e w1 ⟨rfl, hb1⟩)
  go_ret2
  exact ⟨_, _, rfl, Own.more (Own.lit _ _ 2 0 _ _ (Nat.zero_le _) rfl) (by have := (hbA.trans (hb1.mono hbA.size)).size; omega), (hbA.trans (hb1.mono hbA.size)).alloc (by have := (hbA.trans (hb1.mono hbA.size)).size; omega) _⟩
end Go.Proofs.YtfnmlffpnmmcdaaGreatDoor
