import Derived.Test.YtdcppbaahoimfaaWhereA
import Derived.Test.YtdcppbaahoimfaaWhereB
import Derived.Test.YtdcppbaahoimfaaOpenMove
import Derived.Deep.DeepCutAuto
import Derived.Test.YtdcppbaahoimfaaRegB
namespace Go.Proofs.Ytdcppbaahoimfaa
open Go.RowKit
set_option maxHeartbeats 400000 in
theorem FnExactWhereIs_walk (A0 : Option Addr) (cap0 : Nat) (xs0 : List ElMove) (x1 : ElHandle) (w : World) (h0 : RdE 4 encMove w w.heap.size A0 xs0) (hc0 : xs0.length ≤ cap0) (hm0 : cap0 ≤ maxLen) (_wf0 : ∀ x ∈ xs0, okwMove x) (_wf1 : okwHandle x1) :
    Calls Try.prog 6 #[.slice A0 xs0.length cap0, .agg #[encHandle x1 0, encHandle x1 1]] w fun e w' => e = .returned (.bool true) ∧ Below w.heap.size w w' := by
  unfold maxLen at hm0
  have hsz0 : ∀ k, k < xs0.length → (gt xs0 k).1.1.size ≤ maxLen ∧ (gt xs0 k).1.2.size ≤ maxLen ∧ (gt xs0 k).2.1.size ≤ maxLen ∧ (gt xs0 k).2.2.size ≤ maxLen := fun k hk => okwszMove (_wf0 _ (gt_mem hk))
  have HSZ0 := Lib.hid hsz0
  clear hsz0
  by_cases hz0 : (totMove xs0 : Int) ≤ 1048576
  · have y0 : szL (1048576) (totMove xs0) = 1048576 - (totMove xs0 : Int) := szL_yes hz0
    have yl0 : xs0.length ≤ totMove xs0 := by unfold totMove; omega
    have d0 : decide (1048576 - (totMove xs0 : Int) < 0) = false := decide_eq_false (by omega)
    by_cases hz1 : (byHandle x1 : Int) ≤ 1048576 - (totMove xs0 : Int)
    · have y1 : szL (1048576 - (totMove xs0 : Int)) (byHandle x1) = 1048576 - (totMove xs0 : Int) - (byHandle x1 : Int) := szL_yes hz1
      have d1 : decide (1048576 - (totMove xs0 : Int) - (byHandle x1 : Int) < 0) = false := decide_eq_false (by omega)
      have heR : eqEl (α := ElHandle) ((whereOf xs0 x1).1, (whereOf xs0 x1).2) ((whereOf xs0 x1).1, (whereOf xs0 x1).2) = true := eqEl_true rfl
      have self0 := sameB_self xs0
      have hbA : Below w.heap.size w (w.alloc (.cells #[encHandle x1 0, encHandle x1 1] 41)) := (Below.refl _ _).alloc (Nat.le_refl _) _
      have q1_0 : (w.alloc (.cells #[encHandle x1 0, encHandle x1 1] 41)).cell? ⟨w.heap.size, 0, none⟩ = some (encHandle x1 0) := by rw [World.cell?_alloc_at _ _ _ _ rfl]; rfl
      have q1_1 : (w.alloc (.cells #[encHandle x1 0, encHandle x1 1] 41)).cell? ⟨w.heap.size, 1, none⟩ = some (encHandle x1 1) := by rw [World.cell?_alloc_at _ _ _ _ rfl]; rfl
      have hzA : (w.alloc (.cells #[encHandle x1 0, encHandle x1 1] 41)).heap.size = w.heap.size + 1 := by simp
      have hA0 : RdE 4 encMove (w.alloc (.cells #[encHandle x1 0, encHandle x1 1] 41)) w.heap.size A0 xs0 := h0.below hbA
      go_enter Try.func6, Try.ntmps6
      go_wp2_with fail
      generalize (w.alloc (.cells #[encHandle x1 0, encHandle x1 1] 41)) = wA at *
      go_wp2_with fail
      refine (szMoveS_any A0 cap0 w.heap.size xs0 _ _ hA0 (hbA.size) (by omega) HSZ0.out (by omega) (by omega)).mono ?_
      rintro e v0 ⟨rfl, bz0⟩
      have z_v0 : wA.heap.size ≤ v0.heap.size := bz0.size
      have c_v0 : Below w.heap.size w v0 := hbA.trans (bz0.mono (by omega))
      have q1_0_v0 : v0.cell? ⟨w.heap.size, 0, none⟩ = some (encHandle x1 0) := (bz0.cell (by show w.heap.size < _; omega)).trans q1_0
      have q1_1_v0 : v0.cell? ⟨w.heap.size, 1, none⟩ = some (encHandle x1 1) := (bz0.cell (by show w.heap.size < _; omega)).trans q1_1
      have h0_v0 : RdE 4 encMove v0 w.heap.size A0 xs0 := hA0.below (bz0.mono (by omega))
      go_wp2_with fail
      have hsv1 := szHandle_any x1.1 x1.2 (1048576 - (totMove xs0 : Int)) v0 (by omega) (by omega) (okwVHandle_0 _wf1) (okwVHandle_1 _wf1)
      rw [show x1.1.size + x1.2.size = byHandle x1 from rfl, y1] at hsv1
      have HSV1 := Lib.hid hsv1
      clear hsv1
      refine HSV1.out.mono ?_
      rintro e v1 ⟨rfl, bz1⟩
      have z_v1 : v0.heap.size ≤ v1.heap.size := bz1.size
      have c_v1 : Below w.heap.size w v1 := c_v0.trans (bz1.mono (by omega))
      have q1_0_v1 : v1.cell? ⟨w.heap.size, 0, none⟩ = some (encHandle x1 0) := (bz1.cell (by show w.heap.size < _; omega)).trans q1_0_v0
      have q1_1_v1 : v1.cell? ⟨w.heap.size, 1, none⟩ = some (encHandle x1 1) := (bz1.cell (by show w.heap.size < _; omega)).trans q1_1_v0
      have h0_v1 : RdE 4 encMove v1 w.heap.size A0 xs0 := h0_v0.below (bz1.mono (by omega))
      have sv0 : w.heap.size < v1.heap.size := by omega
      have ga1_0 : (v1.alloc (.cells #[.string { data := #[] }, .string { data := #[] }] 28)).drew.cell? ⟨v1.heap.size, 0, none⟩ = some (.string { data := #[] }) := by show (v1.alloc (.cells #[.string { data := #[] }, .string { data := #[] }] 28)).cell? _ = _; rw [World.cell?_alloc_at _ _ _ _ rfl]; rfl
      have fa1_0 : (v1.alloc (.cells #[.string { data := #[] }, .string { data := #[] }] 28)).drew.frozen? ⟨v1.heap.size, 0, none⟩ = false := fz_new _ _ _ _
      have ga1_1 : (v1.alloc (.cells #[.string { data := #[] }, .string { data := #[] }] 28)).drew.cell? ⟨v1.heap.size, 1, none⟩ = some (.string { data := #[] }) := by show (v1.alloc (.cells #[.string { data := #[] }, .string { data := #[] }] 28)).cell? _ = _; rw [World.cell?_alloc_at _ _ _ _ rfl]; rfl
      have fa1_1 : (v1.alloc (.cells #[.string { data := #[] }, .string { data := #[] }] 28)).drew.frozen? ⟨v1.heap.size, 1, none⟩ = false := fz_new _ _ _ _
      go_upto_region 8 with fail
      go_cut [6] (fun p wx => ∃ g : Nat, p = .pointer (some ⟨g, 0, none⟩) ∧ w.heap.size < g ∧ g < wx.heap.size ∧ wx.cell? ⟨g, 0, none⟩ = some (.string ((whereOf xs0 x1).1)) ∧ wx.cell? ⟨g, 1, none⟩ = some (.string ((whereOf xs0 x1).2)) ∧ Below v1.heap.size v1 wx)
      case first =>
        go_region_held3 (fun w' => w'.cell? ⟨w.heap.size, 0, none⟩ = some (encHandle x1 0) ∧ w'.cell? ⟨w.heap.size, 1, none⟩ = some (encHandle x1 1)) (exact ⟨cellOn q1_0_v1 (by show w.heap.size < _; omega) (by repeat (first | assumption | exact Below.refl _ _ | refine Below.drew ?_ | refine Below.push ?_ _ | refine Below.setCell ?_ (by simp; try omega) _)), cellOn q1_1_v1 (by show w.heap.size < _; omega) (by repeat (first | assumption | exact Below.refl _ _ | refine Below.drew ?_ | refine Below.push ?_ _ | refine Below.setCell ?_ (by simp; try omega) _))⟩) (first
          | (go_at_call 16; refine (toMoveS_any _ _ w.heap.size xs0 _ (Rd.on h0_v1 (by omega) (by repeat (first | assumption | exact Below.refl _ _ | refine Below.drew ?_ | refine Below.push ?_ _ | refine Below.setCell ?_ (by simp; try omega) _))) (Nat.le_trans (by omega : w.heap.size ≤ v1.heap.size) (Below.size (B := v1.heap.size) (by repeat (first | assumption | exact Below.refl _ _ | refine Below.drew ?_ | refine Below.push ?_ _ | refine Below.setCell ?_ (by simp; try omega) _)))) (by omega)).mono ?_; rintro e w2 ⟨T1, rfl, o1, b1⟩; have k2 : Below v1.heap.size v1 w2 := Below.app (by repeat (first | assumption | exact Below.refl _ _ | refine Below.drew ?_ | refine Below.push ?_ _ | refine Below.setCell ?_ (by simp; try omega) _)) b1; have zk2 := k2.size; have ga2_0 := (Below.cell b1 (p := ⟨v1.heap.size, 0, none⟩) (by simp)).trans ga1_0; have fa2_0 := (Below.frozen b1 (p := ⟨v1.heap.size, 0, none⟩) (by simp)).trans fa1_0; have ga2_1 := (Below.cell b1 (p := ⟨v1.heap.size, 1, none⟩) (by simp)).trans ga1_1; have fa2_1 := (Below.frozen b1 (p := ⟨v1.heap.size, 1, none⟩) (by simp)).trans fa1_1; have zs2 := b1.size; simp at zs2)
          | (go_at_call 16; refine (toMoveS_any _ _ w.heap.size xs0 _ (Rd.on h0_v1 (by omega) (by repeat (first | assumption | exact Below.refl _ _ | refine Below.drew ?_ | refine Below.push ?_ _ | refine Below.setCell ?_ (by simp; try omega) _))) (Nat.le_trans (by omega : w.heap.size ≤ v1.heap.size) (Below.size (B := v1.heap.size) (by repeat (first | assumption | exact Below.refl _ _ | refine Below.drew ?_ | refine Below.push ?_ _ | refine Below.setCell ?_ (by simp; try omega) _)))) (by omega)).mono ?_; rintro e w2 ⟨T1, rfl, o1, b1⟩; have k2 : Below v1.heap.size v1 w2 := Below.app (by repeat (first | assumption | exact Below.refl _ _ | refine Below.drew ?_ | refine Below.push ?_ _ | refine Below.setCell ?_ (by simp; try omega) _)) b1; have zk2 := k2.size)
          | (go_at_call 23; refine (toHandle_any x1.1 x1.2 _).mono ?_; rintro e w3 ⟨rfl, b2⟩; have j3 : Below w2.heap.size w2 w3 := Below.app (by repeat (first | assumption | exact Below.refl _ _ | refine Below.drew ?_ | refine Below.push ?_ _ | refine Below.setCell ?_ (by simp; try omega) _)) b2; have k3 : Below v1.heap.size v1 w3 := Below.app k2 j3; have zk3 := k3.size; have zj3 := j3.size; have ga3_0 := (Below.cell b2 (p := ⟨v1.heap.size, 0, none⟩) (by show v1.heap.size < _; omega)).trans ga2_0; have fa3_0 := (Below.frozen b2 (p := ⟨v1.heap.size, 0, none⟩) (by show v1.heap.size < _; omega)).trans fa2_0; have ga3_1 := (Below.cell b2 (p := ⟨v1.heap.size, 1, none⟩) (by show v1.heap.size < _; omega)).trans ga2_1; have fa3_1 := (Below.frozen b2 (p := ⟨v1.heap.size, 1, none⟩) (by show v1.heap.size < _; omega)).trans fa2_1)
          | (go_at_call 23; refine (toHandle_any x1.1 x1.2 _).mono ?_; rintro e w3 ⟨rfl, b2⟩; have j3 : Below w2.heap.size w2 w3 := Below.app (by repeat (first | assumption | exact Below.refl _ _ | refine Below.drew ?_ | refine Below.push ?_ _ | refine Below.setCell ?_ (by simp; try omega) _)) b2; have k3 : Below v1.heap.size v1 w3 := Below.app k2 j3; have zk3 := k3.size; have zj3 := j3.size; have gb3_0 := (Below.cell b2 (p := ⟨w2.heap.size, 0, none⟩) (by simp)).trans (show (w2.alloc (.cells #[.string { data := #[] }, .string { data := #[] }] 28)).cell? ⟨w2.heap.size, 0, none⟩ = some (.string { data := #[] }) by rw [World.cell?_alloc_at _ _ _ _ rfl]; rfl); have fb3_0 := (Below.frozen b2 (p := ⟨w2.heap.size, 0, none⟩) (by simp)).trans (show (w2.alloc (.cells #[.string { data := #[] }, .string { data := #[] }] 28)).frozen? ⟨w2.heap.size, 0, none⟩ = false from fz_new _ _ _ _); have gb3_1 := (Below.cell b2 (p := ⟨w2.heap.size, 1, none⟩) (by simp)).trans (show (w2.alloc (.cells #[.string { data := #[] }, .string { data := #[] }] 28)).cell? ⟨w2.heap.size, 1, none⟩ = some (.string { data := #[] }) by rw [World.cell?_alloc_at _ _ _ _ rfl]; rfl); have fb3_1 := (Below.frozen b2 (p := ⟨w2.heap.size, 1, none⟩) (by simp)).trans (show (w2.alloc (.cells #[.string { data := #[] }, .string { data := #[] }] 28)).frozen? ⟨w2.heap.size, 1, none⟩ = false from fz_new _ _ _ _); have zs3 := b2.size; simp at zs3)
          | (go_at_call 23; refine (toHandle_any x1.1 x1.2 _).mono ?_; rintro e w3 ⟨rfl, b2⟩; have j3 : Below w2.heap.size w2 w3 := Below.app (by repeat (first | assumption | exact Below.refl _ _ | refine Below.drew ?_ | refine Below.push ?_ _ | refine Below.setCell ?_ (by simp; try omega) _)) b2; have k3 : Below v1.heap.size v1 w3 := Below.app k2 j3; have zk3 := k3.size; have zj3 := j3.size)
          | (go_at_call 20; refine (specWhereIs_any _ _ w2.heap.size xs0 x1 _ (Rd.on (OwnE.rd o1) (Nat.le_refl _) (by repeat (first | assumption | exact Below.refl _ _ | refine Below.drew ?_ | refine Below.push ?_ _ | refine Below.setCell ?_ (by simp; try omega) _))) (Below.size (B := w2.heap.size) (by repeat (first | assumption | exact Below.refl _ _ | refine Below.drew ?_ | refine Below.push ?_ _ | refine Below.setCell ?_ (by simp; try omega) _))) (by omega) HSZ0.out (okwVHandle_0 _wf1) (okwVHandle_1 _wf1)).mono ?_; rintro e w4 ⟨rfl, b3⟩; have j4 : Below w3.heap.size w3 w4 := Below.app (by repeat (first | assumption | exact Below.refl _ _ | refine Below.drew ?_ | refine Below.push ?_ _ | refine Below.setCell ?_ (by simp; try omega) _)) b3; have k4 : Below v1.heap.size v1 w4 := Below.app k3 j4; have zk4 := k4.size; have zj4 := j4.size; have ga4_0 := (Below.cell b3 (p := ⟨v1.heap.size, 0, none⟩) (by show v1.heap.size < _; omega)).trans ga3_0; have fa4_0 := (Below.frozen b3 (p := ⟨v1.heap.size, 0, none⟩) (by show v1.heap.size < _; omega)).trans fa3_0; have ga4_1 := (Below.cell b3 (p := ⟨v1.heap.size, 1, none⟩) (by show v1.heap.size < _; omega)).trans ga3_1; have fa4_1 := (Below.frozen b3 (p := ⟨v1.heap.size, 1, none⟩) (by show v1.heap.size < _; omega)).trans fa3_1)
          | (go_at_call 20; refine (specWhereIs_any _ _ w2.heap.size xs0 x1 _ (Rd.on (OwnE.rd o1) (Nat.le_refl _) (by repeat (first | assumption | exact Below.refl _ _ | refine Below.drew ?_ | refine Below.push ?_ _ | refine Below.setCell ?_ (by simp; try omega) _))) (Below.size (B := w2.heap.size) (by repeat (first | assumption | exact Below.refl _ _ | refine Below.drew ?_ | refine Below.push ?_ _ | refine Below.setCell ?_ (by simp; try omega) _))) (by omega) HSZ0.out (okwVHandle_0 _wf1) (okwVHandle_1 _wf1)).mono ?_; rintro e w4 ⟨rfl, b3⟩; have j4 : Below w3.heap.size w3 w4 := Below.app (by repeat (first | assumption | exact Below.refl _ _ | refine Below.drew ?_ | refine Below.push ?_ _ | refine Below.setCell ?_ (by simp; try omega) _)) b3; have k4 : Below v1.heap.size v1 w4 := Below.app k3 j4; have zk4 := k4.size; have zj4 := j4.size; have gb4_0 := (Below.cell b3 (p := ⟨w2.heap.size, 0, none⟩) (by show w2.heap.size < _; omega)).trans gb3_0; have fb4_0 := (Below.frozen b3 (p := ⟨w2.heap.size, 0, none⟩) (by show w2.heap.size < _; omega)).trans fb3_0; have gb4_1 := (Below.cell b3 (p := ⟨w2.heap.size, 1, none⟩) (by show w2.heap.size < _; omega)).trans gb3_1; have fb4_1 := (Below.frozen b3 (p := ⟨w2.heap.size, 1, none⟩) (by show w2.heap.size < _; omega)).trans fb3_1)
          | (go_at_call 20; refine (specWhereIs_any _ _ w2.heap.size xs0 x1 _ (Rd.on (OwnE.rd o1) (Nat.le_refl _) (by repeat (first | assumption | exact Below.refl _ _ | refine Below.drew ?_ | refine Below.push ?_ _ | refine Below.setCell ?_ (by simp; try omega) _))) (Below.size (B := w2.heap.size) (by repeat (first | assumption | exact Below.refl _ _ | refine Below.drew ?_ | refine Below.push ?_ _ | refine Below.setCell ?_ (by simp; try omega) _))) (by omega) HSZ0.out (okwVHandle_0 _wf1) (okwVHandle_1 _wf1)).mono ?_; rintro e w4 ⟨rfl, b3⟩; have j4 : Below w3.heap.size w3 w4 := Below.app (by repeat (first | assumption | exact Below.refl _ _ | refine Below.drew ?_ | refine Below.push ?_ _ | refine Below.setCell ?_ (by simp; try omega) _)) b3; have k4 : Below v1.heap.size v1 w4 := Below.app k3 j4; have zk4 := k4.size; have zj4 := j4.size; have gc4_0 := (Below.cell b3 (p := ⟨w3.heap.size, 0, none⟩) (by simp)).trans (show (w3.alloc (.cells #[.string { data := #[] }, .string { data := #[] }] 28)).cell? ⟨w3.heap.size, 0, none⟩ = some (.string { data := #[] }) by rw [World.cell?_alloc_at _ _ _ _ rfl]; rfl); have fc4_0 := (Below.frozen b3 (p := ⟨w3.heap.size, 0, none⟩) (by simp)).trans (show (w3.alloc (.cells #[.string { data := #[] }, .string { data := #[] }] 28)).frozen? ⟨w3.heap.size, 0, none⟩ = false from fz_new _ _ _ _); have gc4_1 := (Below.cell b3 (p := ⟨w3.heap.size, 1, none⟩) (by simp)).trans (show (w3.alloc (.cells #[.string { data := #[] }, .string { data := #[] }] 28)).cell? ⟨w3.heap.size, 1, none⟩ = some (.string { data := #[] }) by rw [World.cell?_alloc_at _ _ _ _ rfl]; rfl); have fc4_1 := (Below.frozen b3 (p := ⟨w3.heap.size, 1, none⟩) (by simp)).trans (show (w3.alloc (.cells #[.string { data := #[] }, .string { data := #[] }] 28)).frozen? ⟨w3.heap.size, 1, none⟩ = false from fz_new _ _ _ _); have zs4 := b3.size; simp at zs4)
          | (go_at_call 20; refine (specWhereIs_any _ _ w2.heap.size xs0 x1 _ (Rd.on (OwnE.rd o1) (Nat.le_refl _) (by repeat (first | assumption | exact Below.refl _ _ | refine Below.drew ?_ | refine Below.push ?_ _ | refine Below.setCell ?_ (by simp; try omega) _))) (Below.size (B := w2.heap.size) (by repeat (first | assumption | exact Below.refl _ _ | refine Below.drew ?_ | refine Below.push ?_ _ | refine Below.setCell ?_ (by simp; try omega) _))) (by omega) HSZ0.out (okwVHandle_0 _wf1) (okwVHandle_1 _wf1)).mono ?_; rintro e w4 ⟨rfl, b3⟩; have j4 : Below w3.heap.size w3 w4 := Below.app (by repeat (first | assumption | exact Below.refl _ _ | refine Below.drew ?_ | refine Below.push ?_ _ | refine Below.setCell ?_ (by simp; try omega) _)) b3; have k4 : Below v1.heap.size v1 w4 := Below.app k3 j4; have zk4 := k4.size; have zj4 := j4.size))
        all_goals
          go_wp2_with fail
          go_meet
          case rel =>
            first | exact ⟨v1.heap.size, rfl, by omega, by first | omega | (simp; omega) | simp, by go_simp, by go_simp, (by repeat (first | assumption | exact Below.refl _ _ | refine Below.drew ?_ | refine Below.push ?_ _ | refine Below.setCell ?_ (by simp; try omega) _))⟩ | exact ⟨w2.heap.size, rfl, by omega, by first | omega | (simp; omega) | simp, by go_simp, by go_simp, (by repeat (first | assumption | exact Below.refl _ _ | refine Below.drew ?_ | refine Below.push ?_ _ | refine Below.setCell ?_ (by simp; try omega) _))⟩ | exact ⟨w3.heap.size, rfl, by omega, by first | omega | (simp; omega) | simp, by go_simp, by go_simp, (by repeat (first | assumption | exact Below.refl _ _ | refine Below.drew ?_ | refine Below.push ?_ _ | refine Below.setCell ?_ (by simp; try omega) _))⟩ | exact ⟨w4.heap.size, rfl, by omega, by first | omega | (simp; omega) | simp, by go_simp, by go_simp, (by repeat (first | assumption | exact Below.refl _ _ | refine Below.drew ?_ | refine Below.push ?_ _ | refine Below.setCell ?_ (by simp; try omega) _))⟩
      case rest =>
        obtain ⟨g, rfl, hg0, hg1, gR0, gR1, kc⟩ := hcut
        have z_wc : v1.heap.size ≤ wc.heap.size := kc.size
        have c_wc : Below w.heap.size w wc := c_v1.trans (kc.mono (by omega))
        have q1_0_wc : wc.cell? ⟨w.heap.size, 0, none⟩ = some (encHandle x1 0) := (kc.cell (by show w.heap.size < _; omega)).trans q1_0_v1
        have q1_1_wc : wc.cell? ⟨w.heap.size, 1, none⟩ = some (encHandle x1 1) := (kc.cell (by show w.heap.size < _; omega)).trans q1_1_v1
        have h0_wc : RdE 4 encMove wc w.heap.size A0 xs0 := h0_v1.below (kc.mono (by omega))
        have gz_wc : g < wc.heap.size := hg1
        go_wp2_with fail
        refine (toMoveS_any _ _ _ xs0 _ h0_wc (by omega) (by omega)).mono ?_
        rintro e w1 ⟨T1, rfl, o1, b1⟩
        have z_w1 : wc.heap.size ≤ w1.heap.size := b1.size
        have c_w1 : Below w.heap.size w w1 := c_wc.trans (b1.mono (by omega))
        have q1_0_w1 : w1.cell? ⟨w.heap.size, 0, none⟩ = some (encHandle x1 0) := (b1.cell (by show w.heap.size < _; omega)).trans q1_0_wc
        have q1_1_w1 : w1.cell? ⟨w.heap.size, 1, none⟩ = some (encHandle x1 1) := (b1.cell (by show w.heap.size < _; omega)).trans q1_1_wc
        have gR0_w1 : w1.cell? ⟨g, 0, none⟩ = some (.string ((whereOf xs0 x1).1)) := (b1.cell (by show g < _; omega)).trans gR0
        have gR1_w1 : w1.cell? ⟨g, 1, none⟩ = some (.string ((whereOf xs0 x1).2)) := (b1.cell (by show g < _; omega)).trans gR1
        have gz_w1 : g < w1.heap.size := by omega
        have h0_w1 : RdE 4 encMove w1 w.heap.size A0 xs0 := h0_wc.below (b1.mono (by omega))
        go_wp2_with fail
        refine (toHandle_any x1.1 x1.2 _).mono ?_
        rintro e w2 ⟨rfl, b2⟩
        have z_w2 : w1.heap.size ≤ w2.heap.size := b2.size
        have c_w2 : Below w.heap.size w w2 := c_w1.trans (b2.mono (by omega))
        have q1_0_w2 : w2.cell? ⟨w.heap.size, 0, none⟩ = some (encHandle x1 0) := (b2.cell (by show w.heap.size < _; omega)).trans q1_0_w1
        have q1_1_w2 : w2.cell? ⟨w.heap.size, 1, none⟩ = some (encHandle x1 1) := (b2.cell (by show w.heap.size < _; omega)).trans q1_1_w1
        have gR0_w2 : w2.cell? ⟨g, 0, none⟩ = some (.string ((whereOf xs0 x1).1)) := (b2.cell (by show g < _; omega)).trans gR0_w1
        have gR1_w2 : w2.cell? ⟨g, 1, none⟩ = some (.string ((whereOf xs0 x1).2)) := (b2.cell (by show g < _; omega)).trans gR1_w1
        have gz_w2 : g < w2.heap.size := by omega
        have h0_w2 : RdE 4 encMove w2 w.heap.size A0 xs0 := h0_w1.below (b2.mono (by omega))
        have r1_w2 : RdE 4 encMove w2 w1.heap.size T1 xs0 := (OwnE.rd o1).below (b2.mono (by omega))
        go_wp2_with fail
        refine (implWhereIs_any _ _ w2.heap.size xs0 x1 _ (RdE.more r1_w2 (by omega)) (by omega) (by omega) (Nat.le_refl _) HSZ0.out (okwVHandle_0 _wf1) (okwVHandle_1 _wf1)).mono ?_
        rintro e w3 ⟨rfl, b3⟩
        have z_w3 : w2.heap.size ≤ w3.heap.size := b3.size
        have c_w3 : Below w.heap.size w w3 := c_w2.trans (b3.mono (by omega))
        have q1_0_w3 : w3.cell? ⟨w.heap.size, 0, none⟩ = some (encHandle x1 0) := (b3.cell (by show w.heap.size < _; omega)).trans q1_0_w2
        have q1_1_w3 : w3.cell? ⟨w.heap.size, 1, none⟩ = some (encHandle x1 1) := (b3.cell (by show w.heap.size < _; omega)).trans q1_1_w2
        have gR0_w3 : w3.cell? ⟨g, 0, none⟩ = some (.string ((whereOf xs0 x1).1)) := (b3.cell (by show g < _; omega)).trans gR0_w2
        have gR1_w3 : w3.cell? ⟨g, 1, none⟩ = some (.string ((whereOf xs0 x1).2)) := (b3.cell (by show g < _; omega)).trans gR1_w2
        have gz_w3 : g < w3.heap.size := by omega
        have h0_w3 : RdE 4 encMove w3 w.heap.size A0 xs0 := h0_w2.below (b3.mono (by omega))
        have r1_w3 : RdE 4 encMove w3 w1.heap.size T1 xs0 := r1_w2.below (b3.mono (by omega))
        go_wp2_with fail
        have bE : Below w3.heap.size w3 (w3.alloc (.cells #[.string ((whereOf xs0 x1).1), .string ((whereOf xs0 x1).2)] 28)) := (Below.refl _ _).alloc (Nat.le_refl _) _
        generalize (w3.alloc (.cells #[.string ((whereOf xs0 x1).1), .string ((whereOf xs0 x1).2)] 28)) = wE at *
        have z_wE : w3.heap.size ≤ wE.heap.size := bE.size
        have c_wE : Below w.heap.size w wE := c_w3.trans (bE.mono (by omega))
        have q1_0_wE : wE.cell? ⟨w.heap.size, 0, none⟩ = some (encHandle x1 0) := (bE.cell (by show w.heap.size < _; omega)).trans q1_0_w3
        have q1_1_wE : wE.cell? ⟨w.heap.size, 1, none⟩ = some (encHandle x1 1) := (bE.cell (by show w.heap.size < _; omega)).trans q1_1_w3
        have gR0_wE : wE.cell? ⟨g, 0, none⟩ = some (.string ((whereOf xs0 x1).1)) := (bE.cell (by show g < _; omega)).trans gR0_w3
        have gR1_wE : wE.cell? ⟨g, 1, none⟩ = some (.string ((whereOf xs0 x1).2)) := (bE.cell (by show g < _; omega)).trans gR1_w3
        have gz_wE : g < wE.heap.size := by omega
        have h0_wE : RdE 4 encMove wE w.heap.size A0 xs0 := h0_w3.below (bE.mono (by omega))
        have r1_wE : RdE 4 encMove wE w1.heap.size T1 xs0 := r1_w3.below (bE.mono (by omega))
        go_wp2_with fail
        refine (eqHandle_any _ _ _ _ _).mono ?_
        rintro e w4 ⟨rfl, b4⟩
        have z_w4 : wE.heap.size ≤ w4.heap.size := b4.size
        have c_w4 : Below w.heap.size w w4 := c_wE.trans (b4.mono (by omega))
        have q1_0_w4 : w4.cell? ⟨w.heap.size, 0, none⟩ = some (encHandle x1 0) := (b4.cell (by show w.heap.size < _; omega)).trans q1_0_wE
        have q1_1_w4 : w4.cell? ⟨w.heap.size, 1, none⟩ = some (encHandle x1 1) := (b4.cell (by show w.heap.size < _; omega)).trans q1_1_wE
        have gR0_w4 : w4.cell? ⟨g, 0, none⟩ = some (.string ((whereOf xs0 x1).1)) := (b4.cell (by show g < _; omega)).trans gR0_wE
        have gR1_w4 : w4.cell? ⟨g, 1, none⟩ = some (.string ((whereOf xs0 x1).2)) := (b4.cell (by show g < _; omega)).trans gR1_wE
        have gz_w4 : g < w4.heap.size := by omega
        have h0_w4 : RdE 4 encMove w4 w.heap.size A0 xs0 := h0_wE.below (b4.mono (by omega))
        have r1_w4 : RdE 4 encMove w4 w1.heap.size T1 xs0 := r1_wE.below (b4.mono (by omega))
        go_wp2_with fail
        refine (toMoveS_any _ _ _ xs0 _ h0_w4 (by omega) (by omega)).mono ?_
        rintro e w5 ⟨T5, rfl, o5, b5⟩
        have z_w5 : w4.heap.size ≤ w5.heap.size := b5.size
        have c_w5 : Below w.heap.size w w5 := c_w4.trans (b5.mono (by omega))
        have q1_0_w5 : w5.cell? ⟨w.heap.size, 0, none⟩ = some (encHandle x1 0) := (b5.cell (by show w.heap.size < _; omega)).trans q1_0_w4
        have q1_1_w5 : w5.cell? ⟨w.heap.size, 1, none⟩ = some (encHandle x1 1) := (b5.cell (by show w.heap.size < _; omega)).trans q1_1_w4
        have gR0_w5 : w5.cell? ⟨g, 0, none⟩ = some (.string ((whereOf xs0 x1).1)) := (b5.cell (by show g < _; omega)).trans gR0_w4
        have gR1_w5 : w5.cell? ⟨g, 1, none⟩ = some (.string ((whereOf xs0 x1).2)) := (b5.cell (by show g < _; omega)).trans gR1_w4
        have gz_w5 : g < w5.heap.size := by omega
        have h0_w5 : RdE 4 encMove w5 w.heap.size A0 xs0 := h0_w4.below (b5.mono (by omega))
        have r1_w5 : RdE 4 encMove w5 w1.heap.size T1 xs0 := r1_w4.below (b5.mono (by omega))
        go_wp2_with fail
        refine (eqMoveS_any _ _ _ _ _ _ _ _ (RdE.more r1_w5 (by omega : _ ≤ w5.heap.size)) (RdE.more (OwnE.rd o5) (by omega)) (by omega) (by omega) (by omega)).mono ?_
        rintro e w6 ⟨rfl, b6⟩
        have z_w6 : w5.heap.size ≤ w6.heap.size := b6.size
        have c_w6 : Below w.heap.size w w6 := c_w5.trans (b6.mono (by omega))
        have q1_0_w6 : w6.cell? ⟨w.heap.size, 0, none⟩ = some (encHandle x1 0) := (b6.cell (by show w.heap.size < _; omega)).trans q1_0_w5
        have q1_1_w6 : w6.cell? ⟨w.heap.size, 1, none⟩ = some (encHandle x1 1) := (b6.cell (by show w.heap.size < _; omega)).trans q1_1_w5
        have gR0_w6 : w6.cell? ⟨g, 0, none⟩ = some (.string ((whereOf xs0 x1).1)) := (b6.cell (by show g < _; omega)).trans gR0_w5
        have gR1_w6 : w6.cell? ⟨g, 1, none⟩ = some (.string ((whereOf xs0 x1).2)) := (b6.cell (by show g < _; omega)).trans gR1_w5
        have gz_w6 : g < w6.heap.size := by omega
        have h0_w6 : RdE 4 encMove w6 w.heap.size A0 xs0 := h0_w5.below (b6.mono (by omega))
        have r1_w6 : RdE 4 encMove w6 w1.heap.size T1 xs0 := r1_w5.below (b6.mono (by omega))
        have r5_w6 : RdE 4 encMove w6 w5.heap.size T5 xs0 := (OwnE.rd o5).below (b6.mono (by omega))
        go_wp2_with fail
        go_ret
        exact ⟨rfl, c_w6⟩
    · have y1 : szL (1048576 - (totMove xs0 : Int)) (byHandle x1) = -1 := szL_no (by omega)
      have hbA : Below w.heap.size w (w.alloc (.cells #[encHandle x1 0, encHandle x1 1] 41)) := (Below.refl _ _).alloc (Nat.le_refl _) _
      go_enter Try.func6, Try.ntmps6
      go_wp2_with fail
      refine (szMoveS_any A0 cap0 w.heap.size xs0 _ _ (h0.below (hbA.mono (Nat.le_refl _))) hbA.size (by omega) HSZ0.out (by omega) (by omega)).mono ?_
      rintro e u0 ⟨rfl, bu0⟩
      have cu0 := hbA.trans (bu0.mono hbA.size)
      have qo0_0 : u0.cell? ⟨w.heap.size, 0, none⟩ = some (encHandle x1 0) := (Below.cell bu0 (p := ⟨w.heap.size, 0, none⟩) (by first | (show w.heap.size < _; simp; done) | (show w.heap.size < _; have := hbA.size; omega))).trans (by first | assumption | (rw [World.cell?_alloc_at _ _ _ _ rfl]; rfl))
      have qo0_1 : u0.cell? ⟨w.heap.size, 1, none⟩ = some (encHandle x1 1) := (Below.cell bu0 (p := ⟨w.heap.size, 1, none⟩) (by first | (show w.heap.size < _; simp; done) | (show w.heap.size < _; have := hbA.size; omega))).trans (by first | assumption | (rw [World.cell?_alloc_at _ _ _ _ rfl]; rfl))
      go_wp2_with fail
      have hsv1 := szHandle_any x1.1 x1.2 (1048576 - (totMove xs0 : Int)) u0 (by omega) (by omega) (okwVHandle_0 _wf1) (okwVHandle_1 _wf1)
      rw [show x1.1.size + x1.2.size = byHandle x1 from rfl, y1] at hsv1
      have HSV1 := Lib.hid hsv1
      clear hsv1
      refine HSV1.out.mono ?_
      rintro e u1 ⟨rfl, bu1⟩
      have cu1 := cu0.trans (bu1.mono cu0.size)
      go_wp2_with fail
      go_ret
      exact ⟨rfl, cu1⟩
  · have y0 : szL (1048576) (totMove xs0) = -1 := szL_no (by omega)
    have hbA : Below w.heap.size w (w.alloc (.cells #[encHandle x1 0, encHandle x1 1] 41)) := (Below.refl _ _).alloc (Nat.le_refl _) _
    go_enter Try.func6, Try.ntmps6
    go_wp2_with fail
    refine (szMoveS_any A0 cap0 w.heap.size xs0 _ _ (h0.below (hbA.mono (Nat.le_refl _))) hbA.size (by omega) HSZ0.out (by omega) (by omega)).mono ?_
    rintro e u0 ⟨rfl, bu0⟩
    have cu0 := hbA.trans (bu0.mono hbA.size)
    go_wp2_with fail
    go_ret
    exact ⟨rfl, cu0⟩
end Go.Proofs.Ytdcppbaahoimfaa
