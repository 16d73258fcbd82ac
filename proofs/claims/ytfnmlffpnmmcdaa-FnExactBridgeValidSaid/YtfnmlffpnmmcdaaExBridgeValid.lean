import Derived.Test.YtfnmlffpnmmcdaaBridge
import Derived.Test.YtfnmlffpnmmcdaaBridgeV
import Derived.Test.YtfnmlffpnmmcdaaOpenBridge
import Derived.Deep.RegionHeld3
namespace Go.Proofs.Ytfnmlffpnmmcdaa
open Go.RowKit
theorem ownCap {w : World} {base e sz n cap : Nat} {A : Option Addr} {f : Nat → Value} (h : Own w base e sz A n cap f) : n ≤ cap := by
  rcases h.shape with ⟨_, h1, h2⟩ | ⟨_, _, _, _, h1, _⟩ <;> omega
set_option maxHeartbeats 800000 in
theorem FnExactBridgeValid_walk (who : ElHandle) (I : Option Addr) (ci : Nat) (is : List ElItem) (F : Option Addr) (cf : Nat) (fs : List ElHandle) (nx : Int) (w : World) (ow : okwHandle who) (hI : RdE 4 encItem w w.heap.size I is) (hF : RdE 2 encHandle w w.heap.size F fs) (lI : is.length ≤ ci) (mI : ci ≤ maxLen) (wI : ∀ x ∈ is, okwItem x) (lF : fs.length ≤ cf) (mF : cf ≤ maxLen) (wF : ∀ x ∈ fs, okwHandle x) :
    Calls Try.prog 4 #[.agg #[.string who.1, .string who.2, .slice I is.length ci, .slice F fs.length cf, .int .i64 nx]] w fun e w' => e = .returned (.bool true) ∧ Below w.heap.size w w' := by
  unfold maxLen at mI mF
  have HIZ := Lib.hid (show ∀ k, k < is.length → (gt is k).1.size ≤ maxLen ∧ (gt is k).2.1.size ≤ maxLen ∧ (gt is k).2.2.1.size ≤ maxLen from fun k hk => okwszItem (wI _ (gt_mem hk)))
  have HFZ := Lib.hid (show ∀ k, k < fs.length → (gt fs k).1.size ≤ maxLen ∧ (gt fs k).2.size ≤ maxLen from fun k hk => okwszHandle (wF _ (gt_mem hk)))
  have hw0 := okwVHandle_0 ow
  have hw1 := okwVHandle_1 ow
  clear wI wF ow
  have hbA : Below w.heap.size w (w.alloc (.cells #[Value.string who.1, Value.string who.2, Value.slice I is.length ci, Value.slice F fs.length cf, Value.int .i64 nx] 37)) := (Below.refl _ _).alloc (Nat.le_refl _) _
  have hzA : w.heap.size < (w.alloc (.cells #[Value.string who.1, Value.string who.2, Value.slice I is.length ci, Value.slice F fs.length cf, Value.int .i64 nx] 37)).heap.size := by simp
  have q0 : (w.alloc (.cells #[Value.string who.1, Value.string who.2, Value.slice I is.length ci, Value.slice F fs.length cf, Value.int .i64 nx] 37)).cell? ⟨w.heap.size, 0, none⟩ = some (Value.string who.1) := by rw [World.cell?_alloc_at _ _ _ _ rfl]; rfl
  have q1 : (w.alloc (.cells #[Value.string who.1, Value.string who.2, Value.slice I is.length ci, Value.slice F fs.length cf, Value.int .i64 nx] 37)).cell? ⟨w.heap.size, 1, none⟩ = some (Value.string who.2) := by rw [World.cell?_alloc_at _ _ _ _ rfl]; rfl
  have q2 : (w.alloc (.cells #[Value.string who.1, Value.string who.2, Value.slice I is.length ci, Value.slice F fs.length cf, Value.int .i64 nx] 37)).cell? ⟨w.heap.size, 2, none⟩ = some (Value.slice I is.length ci) := by rw [World.cell?_alloc_at _ _ _ _ rfl]; rfl
  have q3 : (w.alloc (.cells #[Value.string who.1, Value.string who.2, Value.slice I is.length ci, Value.slice F fs.length cf, Value.int .i64 nx] 37)).cell? ⟨w.heap.size, 3, none⟩ = some (Value.slice F fs.length cf) := by rw [World.cell?_alloc_at _ _ _ _ rfl]; rfl
  have q4 : (w.alloc (.cells #[Value.string who.1, Value.string who.2, Value.slice I is.length ci, Value.slice F fs.length cf, Value.int .i64 nx] 37)).cell? ⟨w.heap.size, 4, none⟩ = some (Value.int .i64 nx) := by rw [World.cell?_alloc_at _ _ _ _ rfl]; rfl
  have hsz := fun W h h2 hB => szBridge_any who I ci is F cf fs nx 1048576 W w.heap.size h h2 hB (by omega) (by omega) HIZ.out HFZ.out hw0 hw1 (by omega) (by omega)
  by_cases hz : (byBridge who is fs : Int) ≤ 1048576
  · have hil : is.length ≤ 1048576 := by unfold byBridge totItem at hz; omega
    have hfl : fs.length ≤ 1048576 := by unfold byBridge totHandle at hz; omega
    have hd : decide (1048576 - (byBridge who is fs : Int) < 0) = false := decide_eq_false (by omega)
    have hbs : (brB who is fs nx != brB who is fs nx) = false := by simp
    rw [szL_yes hz] at hsz
    have HS := Lib.hid hsz
    clear hsz
    go_enter Try.func4, Try.ntmps4
    go_wp2_with fail
    generalize (w.alloc (.cells #[Value.string who.1, Value.string who.2, Value.slice I is.length ci, Value.slice F fs.length cf, Value.int .i64 nx] 37)) = wA at *
    refine (HS.out wA (hI.below hbA) (hF.below hbA) hbA.size).mono ?_
    rintro e v0 ⟨rfl, b0⟩
    have k0 := hbA.trans (b0.mono hbA.size)
    have z0 : w.heap.size < v0.heap.size := by have := b0.size; omega
    have a0 := (b0.cell (p := ⟨w.heap.size, 0, none⟩) (by show w.heap.size < _; omega)).trans q0
    have a1 := (b0.cell (p := ⟨w.heap.size, 1, none⟩) (by show w.heap.size < _; omega)).trans q1
    have a2 := (b0.cell (p := ⟨w.heap.size, 2, none⟩) (by show w.heap.size < _; omega)).trans q2
    have a3 := (b0.cell (p := ⟨w.heap.size, 3, none⟩) (by show w.heap.size < _; omega)).trans q3
    have a4 := (b0.cell (p := ⟨w.heap.size, 4, none⟩) (by show w.heap.size < _; omega)).trans q4
    have rI := hI.below k0
    have rF := hF.below k0
    clear q0 q1 q2 q3 q4 b0 hbA hzA
    go_wp2_with fail
    refine (toBridge_any who I ci is F cf fs nx v0 w.heap.size rI rF k0.size hil hfl).mono ?_
    rintro e w1 ⟨I1, c1, F1, d1, m1, rfl, oI1, _, _, oF1, b1⟩
    have k1 := k0.trans (b1.mono k0.size)
    have z1 := b1.size
    have b1_0 := (b1.cell (p := ⟨w.heap.size, 0, none⟩) (by show w.heap.size < _; omega)).trans a0
    have b1_1 := (b1.cell (p := ⟨w.heap.size, 1, none⟩) (by show w.heap.size < _; omega)).trans a1
    have b1_2 := (b1.cell (p := ⟨w.heap.size, 2, none⟩) (by show w.heap.size < _; omega)).trans a2
    have b1_3 := (b1.cell (p := ⟨w.heap.size, 3, none⟩) (by show w.heap.size < _; omega)).trans a3
    have b1_4 := (b1.cell (p := ⟨w.heap.size, 4, none⟩) (by show w.heap.size < _; omega)).trans a4
    go_wp2_with fail
    refine (specBridgeValid_any who I1 c1 is F1 d1 fs nx w1 w1.heap.size (OwnE.rd oI1) (OwnE.rd oF1) (Nat.le_refl _) (by omega) (by omega) HIZ.out HFZ.out hw0 hw1).mono ?_
    rintro e w2 ⟨rfl, b2⟩
    have k2 := k1.trans (b2.mono k1.size)
    have z2 := b2.size
    have b2_0 := (b2.cell (p := ⟨w.heap.size, 0, none⟩) (by show w.heap.size < _; omega)).trans b1_0
    have b2_1 := (b2.cell (p := ⟨w.heap.size, 1, none⟩) (by show w.heap.size < _; omega)).trans b1_1
    have b2_2 := (b2.cell (p := ⟨w.heap.size, 2, none⟩) (by show w.heap.size < _; omega)).trans b1_2
    have b2_3 := (b2.cell (p := ⟨w.heap.size, 3, none⟩) (by show w.heap.size < _; omega)).trans b1_3
    have b2_4 := (b2.cell (p := ⟨w.heap.size, 4, none⟩) (by show w.heap.size < _; omega)).trans b1_4
    clear a0 a1 a2 a3 a4 b1_0 b1_1 b1_2 b1_3 b1_4 oI1 oF1
    go_wp2_with fail
    refine (toBridge_any who I ci is F cf fs nx w2 w.heap.size (hI.below k2) (hF.below k2) k2.size hil hfl).mono ?_
    rintro e w3 ⟨I3, c3, F3, d3, m3, rfl, oI3, _, _, oF3, b3⟩
    have k3 := k2.trans (b3.mono k2.size)
    have z3 := b3.size
    have b3_0 := (b3.cell (p := ⟨w.heap.size, 0, none⟩) (by show w.heap.size < _; omega)).trans b2_0
    have b3_1 := (b3.cell (p := ⟨w.heap.size, 1, none⟩) (by show w.heap.size < _; omega)).trans b2_1
    have b3_2 := (b3.cell (p := ⟨w.heap.size, 2, none⟩) (by show w.heap.size < _; omega)).trans b2_2
    have b3_3 := (b3.cell (p := ⟨w.heap.size, 3, none⟩) (by show w.heap.size < _; omega)).trans b2_3
    have b3_4 := (b3.cell (p := ⟨w.heap.size, 4, none⟩) (by show w.heap.size < _; omega)).trans b2_4
    have rI3 := OwnE.rd oI3
    have rF3 := OwnE.rd oF3
    have hc3 := ownCap oI3
    have bB : Below w3.heap.size w3 (w3.alloc (.cells #[Value.string who.1, Value.string who.2, Value.slice I3 is.length c3, Value.slice F3 fs.length d3, Value.int .i64 nx] 28)) := (Below.refl _ _).alloc (Nat.le_refl _) _
    have zB : w3.heap.size < (w3.alloc (.cells #[Value.string who.1, Value.string who.2, Value.slice I3 is.length c3, Value.slice F3 fs.length d3, Value.int .i64 nx] 28)).heap.size := by simp
    have p0 : (w3.alloc (.cells #[Value.string who.1, Value.string who.2, Value.slice I3 is.length c3, Value.slice F3 fs.length d3, Value.int .i64 nx] 28)).cell? ⟨w3.heap.size, 0, none⟩ = some (Value.string who.1) := by rw [World.cell?_alloc_at _ _ _ _ rfl]; rfl
    have p1 : (w3.alloc (.cells #[Value.string who.1, Value.string who.2, Value.slice I3 is.length c3, Value.slice F3 fs.length d3, Value.int .i64 nx] 28)).cell? ⟨w3.heap.size, 1, none⟩ = some (Value.string who.2) := by rw [World.cell?_alloc_at _ _ _ _ rfl]; rfl
    have p2 : (w3.alloc (.cells #[Value.string who.1, Value.string who.2, Value.slice I3 is.length c3, Value.slice F3 fs.length d3, Value.int .i64 nx] 28)).cell? ⟨w3.heap.size, 2, none⟩ = some (Value.slice I3 is.length c3) := by rw [World.cell?_alloc_at _ _ _ _ rfl]; rfl
    have p3 : (w3.alloc (.cells #[Value.string who.1, Value.string who.2, Value.slice I3 is.length c3, Value.slice F3 fs.length d3, Value.int .i64 nx] 28)).cell? ⟨w3.heap.size, 3, none⟩ = some (Value.slice F3 fs.length d3) := by rw [World.cell?_alloc_at _ _ _ _ rfl]; rfl
    have p4 : (w3.alloc (.cells #[Value.string who.1, Value.string who.2, Value.slice I3 is.length c3, Value.slice F3 fs.length d3, Value.int .i64 nx] 28)).cell? ⟨w3.heap.size, 4, none⟩ = some (Value.int .i64 nx) := by rw [World.cell?_alloc_at _ _ _ _ rfl]; rfl
    have e0 := (bB.cell (p := ⟨w.heap.size, 0, none⟩) (by show w.heap.size < _; omega)).trans b3_0
    have e1 := (bB.cell (p := ⟨w.heap.size, 1, none⟩) (by show w.heap.size < _; omega)).trans b3_1
    have e2 := (bB.cell (p := ⟨w.heap.size, 2, none⟩) (by show w.heap.size < _; omega)).trans b3_2
    have e3 := (bB.cell (p := ⟨w.heap.size, 3, none⟩) (by show w.heap.size < _; omega)).trans b3_3
    have e4 := (bB.cell (p := ⟨w.heap.size, 4, none⟩) (by show w.heap.size < _; omega)).trans b3_4
    have kB := k3.trans (bB.mono k3.size)
    clear b2_0 b2_1 b2_2 b2_3 b2_4 b3_0 b3_1 b3_2 b3_3 b3_4 oI3 oF3
    go_wp2_with fail
    generalize (w3.alloc (.cells #[Value.string who.1, Value.string who.2, Value.slice I3 is.length c3, Value.slice F3 fs.length d3, Value.int .i64 nx] 28)) = wB at *
    refine (implBridgeValid_any who I3 c3 is F3 d3 fs nx wB w3.heap.size (rI3.below bB) (rF3.below bB) bB.size (by omega) (by omega) hc3 HIZ.out HFZ.out hw0 hw1).mono ?_
    rintro e w4 ⟨rfl, b4⟩
    have k4 := kB.trans (b4.mono kB.size)
    have z4 := b4.size
    have rI4 := (rI3.below bB).below (b4.mono bB.size)
    have rF4 := (rF3.below bB).below (b4.mono bB.size)
    have f0 : w4.drew.cell? ⟨w.heap.size, 0, none⟩ = _ := (b4.cell (p := ⟨w.heap.size, 0, none⟩) (by show w.heap.size < _; omega)).trans e0
    have f1 : w4.drew.cell? ⟨w.heap.size, 1, none⟩ = _ := (b4.cell (p := ⟨w.heap.size, 1, none⟩) (by show w.heap.size < _; omega)).trans e1
    have f2 : w4.drew.cell? ⟨w.heap.size, 2, none⟩ = _ := (b4.cell (p := ⟨w.heap.size, 2, none⟩) (by show w.heap.size < _; omega)).trans e2
    have f3 : w4.drew.cell? ⟨w.heap.size, 3, none⟩ = _ := (b4.cell (p := ⟨w.heap.size, 3, none⟩) (by show w.heap.size < _; omega)).trans e3
    have f4 : w4.drew.cell? ⟨w.heap.size, 4, none⟩ = _ := (b4.cell (p := ⟨w.heap.size, 4, none⟩) (by show w.heap.size < _; omega)).trans e4
    have g0 : w4.drew.cell? ⟨w3.heap.size, 0, none⟩ = _ := (b4.cell (p := ⟨w3.heap.size, 0, none⟩) (by show w3.heap.size < _; omega)).trans p0
    have g1 : w4.drew.cell? ⟨w3.heap.size, 1, none⟩ = _ := (b4.cell (p := ⟨w3.heap.size, 1, none⟩) (by show w3.heap.size < _; omega)).trans p1
    have g2 : w4.drew.cell? ⟨w3.heap.size, 2, none⟩ = _ := (b4.cell (p := ⟨w3.heap.size, 2, none⟩) (by show w3.heap.size < _; omega)).trans p2
    have g3 : w4.drew.cell? ⟨w3.heap.size, 3, none⟩ = _ := (b4.cell (p := ⟨w3.heap.size, 3, none⟩) (by show w3.heap.size < _; omega)).trans p3
    have g4 : w4.drew.cell? ⟨w3.heap.size, 4, none⟩ = _ := (b4.cell (p := ⟨w3.heap.size, 4, none⟩) (by show w3.heap.size < _; omega)).trans p4
    have f0n : w4.cell? ⟨w.heap.size, 0, none⟩ = _ := f0
    have f1n : w4.cell? ⟨w.heap.size, 1, none⟩ = _ := f1
    have f2n : w4.cell? ⟨w.heap.size, 2, none⟩ = _ := f2
    have f3n : w4.cell? ⟨w.heap.size, 3, none⟩ = _ := f3
    have f4n : w4.cell? ⟨w.heap.size, 4, none⟩ = _ := f4
    have g0n : w4.cell? ⟨w3.heap.size, 0, none⟩ = _ := g0
    have g1n : w4.cell? ⟨w3.heap.size, 1, none⟩ = _ := g1
    have g2n : w4.cell? ⟨w3.heap.size, 2, none⟩ = _ := g2
    have g3n : w4.cell? ⟨w3.heap.size, 3, none⟩ = _ := g3
    have g4n : w4.cell? ⟨w3.heap.size, 4, none⟩ = _ := g4
    have k4d := k4.drew
    have hId : RdE 4 encItem w4.drew w.heap.size I is := hI.below k4d
    have hFd : RdE 2 encHandle w4.drew w.heap.size F fs := hF.below k4d
    have rI4d : RdE 4 encItem w4.drew w3.heap.size I3 is := rI4
    have rF4d : RdE 2 encHandle w4.drew w3.heap.size F3 fs := rF4
    have zd : w4.drew.heap.size = w4.heap.size := rfl
    have ZD := Lib.hid zd
    have hle4 : w3.heap.size ≤ w4.drew.heap.size := by rw [zd]; omega
    have hle5 : w3.heap.size < w4.drew.heap.size := by rw [zd]; omega
    have hle6 : w.heap.size < w4.drew.heap.size := by rw [zd]; omega
    clear zd
    clear e0 e1 e2 e3 e4 p0 p1 p2 p3 p4 rI3 rF3 rI4 rF4 b4 b3 bB
    go_wp2_with fail
    go_region_held3 (fun w' => w'.cell? ⟨w.heap.size, 0, none⟩ = some (Value.string who.1) ∧ w'.cell? ⟨w.heap.size, 1, none⟩ = some (Value.string who.2) ∧ w'.cell? ⟨w.heap.size, 2, none⟩ = some (Value.slice I is.length ci) ∧ w'.cell? ⟨w.heap.size, 3, none⟩ = some (Value.slice F fs.length cf) ∧ w'.cell? ⟨w.heap.size, 4, none⟩ = some (Value.int .i64 nx) ∧ w'.cell? ⟨w3.heap.size, 0, none⟩ = some (Value.string who.1) ∧ w'.cell? ⟨w3.heap.size, 1, none⟩ = some (Value.string who.2) ∧ w'.cell? ⟨w3.heap.size, 2, none⟩ = some (Value.slice I3 is.length c3) ∧ w'.cell? ⟨w3.heap.size, 3, none⟩ = some (Value.slice F3 fs.length d3) ∧ w'.cell? ⟨w3.heap.size, 4, none⟩ = some (Value.int .i64 nx)) (first | exact ⟨f0, f1, f2, f3, f4, g0, g1, g2, g3, g4⟩ | exact ⟨f0n, f1n, f2n, f3n, f4n, g0n, g1n, g2n, g3n, g4n⟩ | exact ⟨h0, h1, h2, h3, h4, j0, j1, j2, j3, j4⟩ | exact ⟨x0, x1, x2, x3, x4, y0, y1, y2, y3, y4⟩ | go_keep) (first
      | (go_at_call 10; refine (toBridge_any who I ci is F cf fs nx w4.drew w.heap.size hId hFd k4d.size hil hfl).mono ?_; rintro e w5 ⟨I5, c5, F5, d5, m5, rfl, oI5, _, _, oF5, b5⟩; have h0 := (b5.cell (p := ⟨w.heap.size, 0, none⟩) hle6).trans f0; have h1 := (b5.cell (p := ⟨w.heap.size, 1, none⟩) hle6).trans f1; have h2 := (b5.cell (p := ⟨w.heap.size, 2, none⟩) hle6).trans f2; have h3 := (b5.cell (p := ⟨w.heap.size, 3, none⟩) hle6).trans f3; have h4 := (b5.cell (p := ⟨w.heap.size, 4, none⟩) hle6).trans f4; have j0 := (b5.cell (p := ⟨w3.heap.size, 0, none⟩) hle5).trans g0; have j1 := (b5.cell (p := ⟨w3.heap.size, 1, none⟩) hle5).trans g1; have j2 := (b5.cell (p := ⟨w3.heap.size, 2, none⟩) hle5).trans g2; have j3 := (b5.cell (p := ⟨w3.heap.size, 3, none⟩) hle5).trans g3; have j4 := (b5.cell (p := ⟨w3.heap.size, 4, none⟩) hle5).trans g4)
      | (go_at_call 11; refine (eqBridge_self who I3 c3 is F3 d3 fs nx I5 F5 c5 d5 w5 w5.heap.size ((rI4d.below (b5.mono hle4)).more (Nat.le_trans hle4 b5.size)) ((rF4d.below (b5.mono hle4)).more (Nat.le_trans hle4 b5.size)) (Nat.le_refl _) (OwnE.rd oI5) (OwnE.rd oF5) (by omega) (by omega)).mono ?_; rintro e w6 ⟨rfl, b6⟩; have hx5 := b5.size; have x0 := (b6.cell (p := ⟨w.heap.size, 0, none⟩) (by show w.heap.size < _; omega)).trans h0; have x1 := (b6.cell (p := ⟨w.heap.size, 1, none⟩) (by show w.heap.size < _; omega)).trans h1; have x2 := (b6.cell (p := ⟨w.heap.size, 2, none⟩) (by show w.heap.size < _; omega)).trans h2; have x3 := (b6.cell (p := ⟨w.heap.size, 3, none⟩) (by show w.heap.size < _; omega)).trans h3; have x4 := (b6.cell (p := ⟨w.heap.size, 4, none⟩) (by show w.heap.size < _; omega)).trans h4; have y0 := (b6.cell (p := ⟨w3.heap.size, 0, none⟩) (by show w3.heap.size < _; omega)).trans j0; have y1 := (b6.cell (p := ⟨w3.heap.size, 1, none⟩) (by show w3.heap.size < _; omega)).trans j1; have y2 := (b6.cell (p := ⟨w3.heap.size, 2, none⟩) (by show w3.heap.size < _; omega)).trans j2; have y3 := (b6.cell (p := ⟨w3.heap.size, 3, none⟩) (by show w3.heap.size < _; omega)).trans j3; have y4 := (b6.cell (p := ⟨w3.heap.size, 4, none⟩) (by show w3.heap.size < _; omega)).trans j4))
    go_wp2_with fail
    go_ret
    exact ⟨rfl, (k4d.trans (b5.mono k4d.size)).trans (b6.mono (Nat.le_trans k4d.size b5.size))⟩
  · have hd : decide ((-1 : Int) < 0) = true := by decide
    rw [szL_no (by omega)] at hsz
    have HS := Lib.hid hsz
    clear hsz
    go_enter Try.func4, Try.ntmps4
    go_wp2_with fail
    generalize (w.alloc (.cells #[Value.string who.1, Value.string who.2, Value.slice I is.length ci, Value.slice F fs.length cf, Value.int .i64 nx] 37)) = wA at *
    refine (HS.out wA (hI.below hbA) (hF.below hbA) hbA.size).mono ?_
    rintro e v0 ⟨rfl, b0⟩
    have k0 := hbA.trans (b0.mono hbA.size)
    go_wp2_with fail
    go_ret
    exact ⟨rfl, k0⟩
end Go.Proofs.Ytfnmlffpnmmcdaa
