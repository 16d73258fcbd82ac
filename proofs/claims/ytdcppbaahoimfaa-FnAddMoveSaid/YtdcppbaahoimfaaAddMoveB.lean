import Derived.Test.YtdcppbaahoimfaaAddMoveA
import Derived.Test.YtdcppbaahoimfaaMoveD
import Derived.Test.YtdcppbaahoimfaaKept
import Derived.Deep.RegionHeld3
namespace Go.Proofs.Ytdcppbaahoimfaa
open Go.RowKit
set_option maxHeartbeats 1600000 in
theorem specAddMove_any (A : Option Addr) (cap B : Nat) (ms : List ElMove) (m : ElMove) (w : World) (h : RdE 4 encMove w B A ms) (hB : B ≤ w.heap.size) (hl : ms.length ≤ 140737488351232) (hsz : ∀ k, k < ms.length → (gt ms k).1.1.size ≤ maxLen ∧ (gt ms k).1.2.size ≤ maxLen ∧ (gt ms k).2.1.size ≤ maxLen ∧ (gt ms k).2.2.size ≤ maxLen) (hm : m.1.1.size ≤ maxLen ∧ m.1.2.size ≤ maxLen ∧ m.2.1.size ≤ maxLen ∧ m.2.2.size ≤ maxLen) :
    Calls Try.prog 27 #[.slice A ms.length cap, .agg #[.string m.1.1, .string m.1.2, .string m.2.1, .string m.2.2]] w fun e w' => ∃ T' cap', e = .returned (.tuple #[.slice T' (addMOf ms m).length cap', .bool (addMOk ms m)]) ∧ OwnE 4 encMove 30 w' w.heap.size T' cap' (addMOf ms m) ∧ Below w.heap.size w w' := by
  have hbA : Below w.heap.size w (w.alloc (.cells #[.string m.1.1, .string m.1.2, .string m.2.1, .string m.2.2] 30)) := (Below.refl _ _).alloc (Nat.le_refl _) _
  have hpA0 : (w.alloc (.cells #[.string m.1.1, .string m.1.2, .string m.2.1, .string m.2.2] 30)).cell? ⟨w.heap.size, 0, none⟩ = some (.string m.1.1) := by rw [World.cell?_alloc_at _ _ _ _ rfl]; rfl
  have hpA1 : (w.alloc (.cells #[.string m.1.1, .string m.1.2, .string m.2.1, .string m.2.2] 30)).cell? ⟨w.heap.size, 1, none⟩ = some (.string m.1.2) := by rw [World.cell?_alloc_at _ _ _ _ rfl]; rfl
  have hpA2 : (w.alloc (.cells #[.string m.1.1, .string m.1.2, .string m.2.1, .string m.2.2] 30)).cell? ⟨w.heap.size, 2, none⟩ = some (.string m.2.1) := by rw [World.cell?_alloc_at _ _ _ _ rfl]; rfl
  have hpA3 : (w.alloc (.cells #[.string m.1.1, .string m.1.2, .string m.2.1, .string m.2.2] 30)).cell? ⟨w.heap.size, 3, none⟩ = some (.string m.2.2) := by rw [World.cell?_alloc_at _ _ _ _ rfl]; rfl
  have hzA : (w.alloc (.cells #[.string m.1.1, .string m.1.2, .string m.2.1, .string m.2.2] 30)).heap.size = w.heap.size + 1 := by simp
  have HSZ := Lib.hid hsz
  have HM : Hid (∀ k, k < (addM ms m).length → (gt (addM ms m) k).1.1.size ≤ maxLen ∧ (gt (addM ms m) k).1.2.size ≤ maxLen ∧ (gt (addM ms m) k).2.1.size ≤ maxLen ∧ (gt (addM ms m) k).2.2.size ≤ maxLen) := Lib.hid (add_szM hsz hm)
  clear hsz hm
  by_cases hv : mvB ms = true
  · have h8 := mv_len hv
    go_enter Try.func27, Try.ntmps27
    go_wp2_with fail
    have HZ := Lib.hid hzA
    clear hzA
    generalize (w.alloc (.cells #[.string m.1.1, .string m.1.2, .string m.2.1, .string m.2.2] 30)) = wA at *
    refine (specMovesValid_any _ _ B ms wA (h.below (hbA.mono hB)) (Nat.le_trans hB hbA.size) (by omega) HSZ.out).mono ?_
    rintro e w1 ⟨rfl, hb1⟩
    have hb1w := hbA.trans (hb1.mono hbA.size)
    have hs1 : w.heap.size + 1 ≤ w1.heap.size := by have := hb1.size; have := HZ.out; omega
    have s0 := (hb1.cell (p := ⟨w.heap.size, 0, none⟩) (by show w.heap.size < wA.heap.size; have := HZ.out; omega)).trans hpA0
    have s1 := (hb1.cell (p := ⟨w.heap.size, 1, none⟩) (by show w.heap.size < wA.heap.size; have := HZ.out; omega)).trans hpA1
    have s2 := (hb1.cell (p := ⟨w.heap.size, 2, none⟩) (by show w.heap.size < wA.heap.size; have := HZ.out; omega)).trans hpA2
    have s3 := (hb1.cell (p := ⟨w.heap.size, 3, none⟩) (by show w.heap.size < wA.heap.size; have := HZ.out; omega)).trans hpA3
    have hr1 := h.below (hb1w.mono hB)
    clear hpA0 hpA1 hpA2 hpA3 hb1 hbA HZ
    have hempA : Own (w1.alloc (.cells #[] 30)).drew (w.heap.size + 1) 30 4 (some ⟨w1.heap.size, 0, none⟩) 0 0 (cE 4 encMove ([] : List ElMove)) := Own.more (Own.lit w1 30 4 0 #[] (cE 4 encMove ([] : List ElMove)) (Nat.zero_le _) rfl) (by first | omega | (simp; done) | (simp; omega))
    have hempB : Own ((w1.alloc (.cells #[] 30)).alloc (.cells #[.string m.1.1, .string m.1.2, .string m.2.1, .string m.2.2] 30)).drew (w.heap.size + 1) 30 4 (some ⟨w1.heap.size, 0, none⟩) 0 0 (cE 4 encMove ([] : List ElMove)) := by
      have h0 : Own (w1.alloc (.cells #[] 30)) (w.heap.size + 1) 30 4 (some ⟨w1.heap.size, 0, none⟩) 0 0 (cE 4 encMove ([] : List ElMove)) := hempA
      have h1 : Own ((w1.alloc (.cells #[] 30)).alloc (.cells #[.string m.1.1, .string m.1.2, .string m.2.1, .string m.2.2] 30)) (w.heap.size + 1) 30 4 (some ⟨w1.heap.size, 0, none⟩) 0 0 (cE 4 encMove ([] : List ElMove)) := Own.below h0 ((Below.refl _ _).alloc (Nat.le_refl _) _)
      exact h1
    have hempC : Own ((w1.alloc (.cells #[.string m.1.1, .string m.1.2, .string m.2.1, .string m.2.2] 30)).alloc (.cells #[] 30)).drew (w.heap.size + 1) 30 4 (some ⟨w1.heap.size + 1, 0, none⟩) 0 0 (cE 4 encMove ([] : List ElMove)) := by
      have := Own.lit (w1.alloc (.cells #[.string m.1.1, .string m.1.2, .string m.2.1, .string m.2.2] 30)) 30 4 0 #[] (cE 4 encMove ([] : List ElMove)) (Nat.zero_le _) rfl
      rw [show ((w1.alloc (.cells #[.string m.1.1, .string m.1.2, .string m.2.1, .string m.2.2] 30))).heap.size = w1.heap.size + 1 by simp] at this
      exact Own.more this (by omega)
    have hgA : Below (w.heap.size + 1) w1 (w1.alloc (.cells #[] 30)).drew := ((Below.refl (w.heap.size + 1) w1).alloc (by omega) _).drew
    have hgB : Below (w.heap.size + 1) w1 ((w1.alloc (.cells #[] 30)).alloc (.cells #[.string m.1.1, .string m.1.2, .string m.2.1, .string m.2.2] 30)).drew := (((Below.refl (w.heap.size + 1) w1).alloc (by omega) _).alloc (by first | omega | (simp; done) | (simp; omega)) _).drew
    have hgP : Below (w.heap.size + 1) w1 (w1.alloc (.cells #[.string m.1.1, .string m.1.2, .string m.2.1, .string m.2.2] 30)).drew := ((Below.refl (w.heap.size + 1) w1).alloc (by omega) _).drew
    have hgC : Below (w.heap.size + 1) w1 ((w1.alloc (.cells #[.string m.1.1, .string m.1.2, .string m.2.1, .string m.2.2] 30)).alloc (.cells #[] 30)).drew := (((Below.refl (w.heap.size + 1) w1).alloc (by omega) _).alloc (by first | omega | (simp; done) | (simp; omega)) _).drew
    have hbeA := hb1w.trans (hgA.mono (Nat.le_succ _))
    have hbeB := hb1w.trans (hgB.mono (Nat.le_succ _))
    have hbeC := hb1w.trans (hgC.mono (Nat.le_succ _))
    have qa0 := (hgA.cell (p := ⟨w.heap.size, 0, none⟩) (by show w.heap.size < w.heap.size + 1; omega)).trans s0
    have qa1 := (hgA.cell (p := ⟨w.heap.size, 1, none⟩) (by show w.heap.size < w.heap.size + 1; omega)).trans s1
    have qa2 := (hgA.cell (p := ⟨w.heap.size, 2, none⟩) (by show w.heap.size < w.heap.size + 1; omega)).trans s2
    have qa3 := (hgA.cell (p := ⟨w.heap.size, 3, none⟩) (by show w.heap.size < w.heap.size + 1; omega)).trans s3
    have qb0 := (hgB.cell (p := ⟨w.heap.size, 0, none⟩) (by show w.heap.size < w.heap.size + 1; omega)).trans s0
    have qb1 := (hgB.cell (p := ⟨w.heap.size, 1, none⟩) (by show w.heap.size < w.heap.size + 1; omega)).trans s1
    have qb2 := (hgB.cell (p := ⟨w.heap.size, 2, none⟩) (by show w.heap.size < w.heap.size + 1; omega)).trans s2
    have qb3 := (hgB.cell (p := ⟨w.heap.size, 3, none⟩) (by show w.heap.size < w.heap.size + 1; omega)).trans s3
    have qp0 := (hgP.cell (p := ⟨w.heap.size, 0, none⟩) (by show w.heap.size < w.heap.size + 1; omega)).trans s0
    have qp1 := (hgP.cell (p := ⟨w.heap.size, 1, none⟩) (by show w.heap.size < w.heap.size + 1; omega)).trans s1
    have qp2 := (hgP.cell (p := ⟨w.heap.size, 2, none⟩) (by show w.heap.size < w.heap.size + 1; omega)).trans s2
    have qp3 := (hgP.cell (p := ⟨w.heap.size, 3, none⟩) (by show w.heap.size < w.heap.size + 1; omega)).trans s3
    have qc0 := (hgC.cell (p := ⟨w.heap.size, 0, none⟩) (by show w.heap.size < w.heap.size + 1; omega)).trans s0
    have qc1 := (hgC.cell (p := ⟨w.heap.size, 1, none⟩) (by show w.heap.size < w.heap.size + 1; omega)).trans s1
    have qc2 := (hgC.cell (p := ⟨w.heap.size, 2, none⟩) (by show w.heap.size < w.heap.size + 1; omega)).trans s2
    have qc3 := (hgC.cell (p := ⟨w.heap.size, 3, none⟩) (by show w.heap.size < w.heap.size + 1; omega)).trans s3
    have hrA : RdE 4 encMove (w1.alloc (.cells #[] 30)).drew B A ms := hr1.below (hgA.mono (by omega))
    have hrB : RdE 4 encMove ((w1.alloc (.cells #[] 30)).alloc (.cells #[.string m.1.1, .string m.1.2, .string m.2.1, .string m.2.2] 30)).drew B A ms := hr1.below (hgB.mono (by omega))
    have hrC : RdE 4 encMove ((w1.alloc (.cells #[.string m.1.1, .string m.1.2, .string m.2.1, .string m.2.2] 30)).alloc (.cells #[] 30)).drew B A ms := hr1.below (hgC.mono (by omega))
    have hxB : ∀ j, j < 4 → ((w1.alloc (.cells #[] 30)).alloc (.cells #[.string m.1.1, .string m.1.2, .string m.2.1, .string m.2.2] 30)).drew.cell? ⟨w1.heap.size + 1, j, none⟩ = some (encMove m j) := fun j hj => by
      show ((w1.alloc (.cells #[] 30)).alloc (.cells #[.string m.1.1, .string m.1.2, .string m.2.1, .string m.2.2] 30)).cell? _ = _
      rw [World.cell?_alloc_at _ _ _ _ (by simp)]; rcases (by omega : j = 0 ∨ j = 1 ∨ j = 2 ∨ j = 3) with rfl | rfl | rfl | rfl <;> rfl
    have hxC : ∀ j, j < 4 → ((w1.alloc (.cells #[.string m.1.1, .string m.1.2, .string m.2.1, .string m.2.2] 30)).alloc (.cells #[] 30)).drew.cell? ⟨w1.heap.size, j, none⟩ = some (encMove m j) := fun j hj => by
      show ((w1.alloc (.cells #[.string m.1.1, .string m.1.2, .string m.2.1, .string m.2.2] 30)).alloc (.cells #[] 30)).cell? _ = _
      rw [((Below.refl (w1.heap.size + 1) (w1.alloc (.cells #[.string m.1.1, .string m.1.2, .string m.2.1, .string m.2.2] 30))).alloc (by simp) _).cell (by show w1.heap.size < w1.heap.size + 1; omega), World.cell?_alloc_at _ _ _ _ rfl]; rcases (by omega : j = 0 ∨ j = 1 ∨ j = 2 ∨ j = 3) with rfl | rfl | rfl | rfl <;> rfl
    have szA : (w1.alloc (.cells #[] 30)).drew.heap.size = w1.heap.size + 1 := by simp
    have szB : ((w1.alloc (.cells #[] 30)).alloc (.cells #[.string m.1.1, .string m.1.2, .string m.2.1, .string m.2.2] 30)).drew.heap.size = w1.heap.size + 1 + 1 := by simp
    have szC : ((w1.alloc (.cells #[.string m.1.1, .string m.1.2, .string m.2.1, .string m.2.2] 30)).alloc (.cells #[] 30)).drew.heap.size = w1.heap.size + 1 + 1 := by simp
    clear hgA hgB hgP hgC
    go_wp2_with fail
    go_region_held3 (fun w' => w'.cell? ⟨w.heap.size, 0, none⟩ = some (.string m.1.1) ∧ w'.cell? ⟨w.heap.size, 1, none⟩ = some (.string m.1.2) ∧ w'.cell? ⟨w.heap.size, 2, none⟩ = some (.string m.2.1) ∧ w'.cell? ⟨w.heap.size, 3, none⟩ = some (.string m.2.2)) (first | exact ⟨s0, s1, s2, s3⟩ | exact ⟨qa0, qa1, qa2, qa3⟩ | exact ⟨qb0, qb1, qb2, qb3⟩ | exact ⟨qc0, qc1, qc2, qc3⟩ | exact ⟨qp0, qp1, qp2, qp3⟩ | exact ⟨t0, t1, t2, t3⟩ | exact ⟨v0, v1, v2, v3⟩ | go_keep) (first
      | (refine step_app (by rfl) (.tmp 11) (.tmp 12) _ (by rfl) (w.heap.size + 1) 30 _ 4 64 Try.underlying23 info_Move rfl (by omega) (some ⟨w1.heap.size, 0, none⟩) A 0 0 ms.length cap _ (cE 4 encMove ([] : List ElMove)) (cE 4 encMove ms) (by simp [go_sem]) (by simp [go_sem]) hempA hrA (fun _ _ => encMove_one _ _) (by simp only [maxLen]; omega) (by omega) (by first | omega | (simp; done) | (simp; omega)) ?_; intro T1 cap1 w3 hown1 hg1; have hb3 := grown_below hg1 (fun b hb => (Own.lt hempA hb).1) (by first | omega | (simp; done) | (simp; omega)); have t0 := (hb3.cell (p := ⟨w.heap.size, 0, none⟩) (by show w.heap.size < w.heap.size + 1; omega)).trans qa0; have t1 := (hb3.cell (p := ⟨w.heap.size, 1, none⟩) (by show w.heap.size < w.heap.size + 1; omega)).trans qa1; have t2 := (hb3.cell (p := ⟨w.heap.size, 2, none⟩) (by show w.heap.size < w.heap.size + 1; omega)).trans qa2; have t3 := (hb3.cell (p := ⟨w.heap.size, 3, none⟩) (by show w.heap.size < w.heap.size + 1; omega)).trans qa3; have hown1' := OwnE.first hown1 rfl; have z3 := hb3.size; rw [szA] at z3; have z3' : w.heap.size + 1 ≤ w3.heap.size := (by omega); have c3 := hbeA.trans (hb3.mono (by omega)); clear hown1 hg1)
      | (refine step_app (by rfl) (.tmp 11) (.tmp 12) _ (by rfl) (w.heap.size + 1) 30 _ 4 64 Try.underlying23 info_Move rfl (by omega) (some ⟨w1.heap.size, 0, none⟩) A 0 0 ms.length cap _ (cE 4 encMove ([] : List ElMove)) (cE 4 encMove ms) (by simp [go_sem]) (by simp [go_sem]) hempB hrB (fun _ _ => encMove_one _ _) (by simp only [maxLen]; omega) (by omega) (by first | omega | (simp; done) | (simp; omega)) ?_; intro T1 cap1 w3 hown1 hg1; have hb3 := grown_below hg1 (fun b hb => (Own.lt hempB hb).1) (by first | omega | (simp; done) | (simp; omega)); have t0 := (hb3.cell (p := ⟨w.heap.size, 0, none⟩) (by show w.heap.size < w.heap.size + 1; omega)).trans qb0; have t1 := (hb3.cell (p := ⟨w.heap.size, 1, none⟩) (by show w.heap.size < w.heap.size + 1; omega)).trans qb1; have t2 := (hb3.cell (p := ⟨w.heap.size, 2, none⟩) (by show w.heap.size < w.heap.size + 1; omega)).trans qb2; have t3 := (hb3.cell (p := ⟨w.heap.size, 3, none⟩) (by show w.heap.size < w.heap.size + 1; omega)).trans qb3; have hown1' := OwnE.first hown1 rfl; have z3 := hb3.size; rw [szB] at z3; have z3' : w.heap.size + 1 ≤ w3.heap.size := (by omega); have c3 := hbeB.trans (hb3.mono (by omega)); have hp1 := elem_kept (enc := encMove) (y := m) (w1.heap.size + 1) hg1 (by first | omega | (simp; done) | (simp; omega)) (.inr (by first | (simp [blk]; done) | (simp [blk]; omega))) hxB; clear hown1 hg1)
      | (refine step_app (by rfl) (.tmp 11) (.tmp 12) _ (by rfl) (w.heap.size + 1) 30 _ 4 64 Try.underlying23 info_Move rfl (by omega) (some ⟨w1.heap.size + 1, 0, none⟩) A 0 0 ms.length cap _ (cE 4 encMove ([] : List ElMove)) (cE 4 encMove ms) (by simp [go_sem]) (by simp [go_sem]) hempC hrC (fun _ _ => encMove_one _ _) (by simp only [maxLen]; omega) (by omega) (by first | omega | (simp; done) | (simp; omega)) ?_; intro T1 cap1 w3 hown1 hg1; have hb3 := grown_below hg1 (fun b hb => (Own.lt hempC hb).1) (by first | omega | (simp; done) | (simp; omega)); have t0 := (hb3.cell (p := ⟨w.heap.size, 0, none⟩) (by show w.heap.size < w.heap.size + 1; omega)).trans qc0; have t1 := (hb3.cell (p := ⟨w.heap.size, 1, none⟩) (by show w.heap.size < w.heap.size + 1; omega)).trans qc1; have t2 := (hb3.cell (p := ⟨w.heap.size, 2, none⟩) (by show w.heap.size < w.heap.size + 1; omega)).trans qc2; have t3 := (hb3.cell (p := ⟨w.heap.size, 3, none⟩) (by show w.heap.size < w.heap.size + 1; omega)).trans qc3; have hown1' := OwnE.first hown1 rfl; have z3 := hb3.size; rw [szC] at z3; have z3' : w.heap.size + 1 ≤ w3.heap.size := (by omega); have c3 := hbeC.trans (hb3.mono (by omega)); have hp1 := elem_kept (enc := encMove) (y := m) (w1.heap.size) hg1 (by first | omega | (simp; done) | (simp; omega)) (.inr (by first | (simp [blk]; done) | (simp [blk]; omega))) hxC; clear hown1 hg1)
      | (refine step_app (by rfl) (.tmp 13) (.tmp 15) _ (by rfl) (w.heap.size + 1) 30 _ 4 64 Try.underlying23 info_Move rfl (by omega) T1 (some ⟨w3.heap.size, 0, none⟩) ms.length cap1 1 1 _ (cE 4 encMove ms) (encMove m) (by simp [go_sem]) (by simp [go_sem]) (Own.below hown1' ((Below.refl _ _).alloc (Nat.le_refl _) _)) (rd_elem _ _ _ _ (fun j hj => by rcases (by omega : j = 0 ∨ j = 1 ∨ j = 2 ∨ j = 3) with rfl | rfl | rfl | rfl <;> rfl)) (fun _ _ => encMove_one _ _) (by simp only [maxLen]; omega) (by omega) (by first | omega | (simp; done) | (simp; omega)) ?_; intro T2 cap2 w4 hown2 hg2; have hb4 := ((Below.refl (w.heap.size + 1) w3).alloc (by omega) _).trans (grown_below hg2 (fun b hb => (Own.lt hown1' hb).1) (by first | omega | (simp; done) | (simp; omega))); have hown2' := (show OwnE 4 encMove 30 w4 (w.heap.size + 1) T2 cap2 (addM ms m) from OwnE.push (by omega) rfl hown2); have z4 := hb4.size; have v0 := (hb4.cell (p := ⟨w.heap.size, 0, none⟩) (by show w.heap.size < w.heap.size + 1; omega)).trans t0; have v1 := (hb4.cell (p := ⟨w.heap.size, 1, none⟩) (by show w.heap.size < w.heap.size + 1; omega)).trans t1; have v2 := (hb4.cell (p := ⟨w.heap.size, 2, none⟩) (by show w.heap.size < w.heap.size + 1; omega)).trans t2; have v3 := (hb4.cell (p := ⟨w.heap.size, 3, none⟩) (by show w.heap.size < w.heap.size + 1; omega)).trans t3; clear hown2 hg2)
      | (refine step_app (by rfl) (.tmp 13) (.tmp 15) _ (by rfl) (w.heap.size + 1) 30 _ 4 64 Try.underlying23 info_Move rfl (by omega) T1 (some ⟨w1.heap.size + 1, 0, none⟩) ms.length cap1 1 1 _ (cE 4 encMove ms) (encMove m) (by simp [go_sem]) (by simp [go_sem]) hown1' hp1 (fun _ _ => encMove_one _ _) (by simp only [maxLen]; omega) (by omega) (by first | omega | (simp; done) | (simp; omega)) ?_; intro T2 cap2 w4 hown2 hg2; have hb4 := grown_below hg2 (fun b hb => (Own.lt hown1' hb).1) (by first | omega | (simp; done) | (simp; omega)); have hown2' := (show OwnE 4 encMove 30 w4 (w.heap.size + 1) T2 cap2 (addM ms m) from OwnE.push (by omega) rfl hown2); have z4 := hb4.size; have v0 := (hb4.cell (p := ⟨w.heap.size, 0, none⟩) (by show w.heap.size < w.heap.size + 1; omega)).trans t0; have v1 := (hb4.cell (p := ⟨w.heap.size, 1, none⟩) (by show w.heap.size < w.heap.size + 1; omega)).trans t1; have v2 := (hb4.cell (p := ⟨w.heap.size, 2, none⟩) (by show w.heap.size < w.heap.size + 1; omega)).trans t2; have v3 := (hb4.cell (p := ⟨w.heap.size, 3, none⟩) (by show w.heap.size < w.heap.size + 1; omega)).trans t3; clear hown2 hg2)
      | (refine step_app (by rfl) (.tmp 13) (.tmp 15) _ (by rfl) (w.heap.size + 1) 30 _ 4 64 Try.underlying23 info_Move rfl (by omega) T1 (some ⟨w1.heap.size, 0, none⟩) ms.length cap1 1 1 _ (cE 4 encMove ms) (encMove m) (by simp [go_sem]) (by simp [go_sem]) hown1' hp1 (fun _ _ => encMove_one _ _) (by simp only [maxLen]; omega) (by omega) (by first | omega | (simp; done) | (simp; omega)) ?_; intro T2 cap2 w4 hown2 hg2; have hb4 := grown_below hg2 (fun b hb => (Own.lt hown1' hb).1) (by first | omega | (simp; done) | (simp; omega)); have hown2' := (show OwnE 4 encMove 30 w4 (w.heap.size + 1) T2 cap2 (addM ms m) from OwnE.push (by omega) rfl hown2); have z4 := hb4.size; have v0 := (hb4.cell (p := ⟨w.heap.size, 0, none⟩) (by show w.heap.size < w.heap.size + 1; omega)).trans t0; have v1 := (hb4.cell (p := ⟨w.heap.size, 1, none⟩) (by show w.heap.size < w.heap.size + 1; omega)).trans t1; have v2 := (hb4.cell (p := ⟨w.heap.size, 2, none⟩) (by show w.heap.size < w.heap.size + 1; omega)).trans t2; have v3 := (hb4.cell (p := ⟨w.heap.size, 3, none⟩) (by show w.heap.size < w.heap.size + 1; omega)).trans t3; clear hown2 hg2))
    all_goals
      have c4 := c3.trans (hb4.mono (by omega))
      have hs4 : w.heap.size + 1 ≤ w4.heap.size := by omega
      have hlen : (addM ms m).length = ms.length + 1 := addM_len ms m
      clear hb3 hb4 hempA hempB hempC hrA hrB hrC hbeA hbeB hbeC qa0 qa1 qa2 qa3 qb0 qb1 qb2 qb3 qc0 qc1 qc2 qc3 qp0 qp1 qp2 qp3 t0 t1 t2 t3 v0 v1 v2 v3 s0 s1 s2 s3 hxB hxC c3
      by_cases hv2 : mvB (addM ms m) = true
      · have H1 := Lib.hid (addMOf_yes hv (show mvB (ms ++ [m]) = true from hv2))
        have H2 := Lib.hid (addMOk_yes hv (show mvB (ms ++ [m]) = true from hv2))
        have hcall := specMovesValid_any T2 cap2 _ (addM ms m) w4 (OwnE.rd hown2') (Nat.le_refl _) (by omega) HM.out
        rw [hlen] at hcall
        have HC := Lib.hid hcall
        have HL := Lib.hid hlen
        clear hcall hlen
        go_wp2_with fail
        refine HC.out.mono ?_
        rintro e w5 ⟨rfl, hb5⟩
        go_wp2_with fail
        go_ret2
        rw [H1.out, H2.out, show ms ++ [m] = addM ms m from rfl, HL.out]
        exact ⟨T2, cap2, rfl, Own.more (Own.below hown2' hb5) (by omega), c4.trans (hb5.mono (by omega))⟩
      · have hv2' : mvB (addM ms m) = false := by simpa using hv2
        have H1 := Lib.hid (addMOf_no hv (show mvB (ms ++ [m]) = false from hv2'))
        have H2 := Lib.hid (addMOk_no (ms := ms) (show mvB (ms ++ [m]) = false from hv2'))
        clear hv2
        have hcall := specMovesValid_any T2 cap2 _ (addM ms m) w4 (OwnE.rd hown2') (Nat.le_refl _) (by omega) HM.out
        rw [hlen] at hcall
        have HC := Lib.hid hcall
        clear hcall hlen
        go_wp2_with fail
        refine HC.out.mono ?_
        rintro e w5 ⟨rfl, hb5⟩
        have hs5 := hb5.size
        have c5 := c4.trans (hb5.mono (by omega))
        have hr6 := (h.below (c5.mono hB)).alloc (Nat.le_trans hB c5.size) (.cells #[] 30)
        have c6 := c5.alloc c5.size (.cells #[] 30)
        have own6 : Own (w5.alloc (.cells #[] 30)) w.heap.size 30 4 (some ⟨w5.heap.size, 0, none⟩) 0 0 (cE 4 encMove ([] : List ElMove)) := Own.more (Own.lit w5 30 4 0 #[] (cE 4 encMove ([] : List ElMove)) (Nat.zero_le _) rfl) (by omega)
        go_wp2_with (at_builtin; refine wpList_app rfl (.tmp 20) (.tmp 21) _ rfl w.heap.size 30 _ 4 64 Try.underlying23 info_Move rfl (by omega) (some ⟨w5.heap.size, 0, none⟩) A 0 0 ms.length cap B (cE 4 encMove ([] : List ElMove)) (cE 4 encMove ms) rfl rfl own6 hr6 (fun _ _ => encMove_one _ _) (by simp only [maxLen]; omega) (by omega) (by simp; omega) ?_; intro T8 cap8 w8 hown8 hg8)
        go_ret2
        rw [H1.out, H2.out]
        exact ⟨T8, cap8, by simp, OwnE.first hown8 rfl, c6.trans (grown_below hg8 (fun b hb => (Own.lt own6 hb).1) (by simp; omega))⟩
  · have hv' : mvB ms = false := by simpa using hv
    rw [addMOf_bad (m := m) hv', addMOk_bad (m := m) hv']
    clear hv
    go_enter Try.func27, Try.ntmps27
    go_wp2_with fail
    have HZ := Lib.hid hzA
    clear hzA
    generalize (w.alloc (.cells #[.string m.1.1, .string m.1.2, .string m.2.1, .string m.2.2] 30)) = wA at *
    refine (specMovesValid_any _ _ B ms wA (h.below (hbA.mono hB)) (Nat.le_trans hB hbA.size) (by omega) HSZ.out).mono ?_
    rintro e w1 ⟨rfl, hb1⟩
    have hb1w := hbA.trans (hb1.mono hbA.size)
    have hs1 : w.heap.size + 1 ≤ w1.heap.size := by have := hb1.size; have := HZ.out; omega
    have s0 := (hb1.cell (p := ⟨w.heap.size, 0, none⟩) (by show w.heap.size < wA.heap.size; have := HZ.out; omega)).trans hpA0
    have s1 := (hb1.cell (p := ⟨w.heap.size, 1, none⟩) (by show w.heap.size < wA.heap.size; have := HZ.out; omega)).trans hpA1
    have s2 := (hb1.cell (p := ⟨w.heap.size, 2, none⟩) (by show w.heap.size < wA.heap.size; have := HZ.out; omega)).trans hpA2
    have s3 := (hb1.cell (p := ⟨w.heap.size, 3, none⟩) (by show w.heap.size < wA.heap.size; have := HZ.out; omega)).trans hpA3
    have hr1 := h.below (hb1w.mono hB)
    clear hpA0 hpA1 hpA2 hpA3 hb1 hbA HZ
    go_wp2_with fail
    go_ret2
    exact ⟨some ⟨w1.heap.size, 0, none⟩, 0, rfl, Own.more (Own.lit w1 30 4 0 #[] (cE 4 encMove ([] : List ElMove)) (Nat.zero_le _) rfl) (by omega), hb1w.alloc (by omega) _⟩
end Go.Proofs.Ytdcppbaahoimfaa
