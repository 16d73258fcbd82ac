import Derived.Test.YtnmgfpphihieiaaPostText
import Derived.Test.YtnmgfpphihieiaaOpenItem
namespace Go.Proofs.Ytnmgfpphihieiaa
open Go.RowKit
set_option maxHeartbeats 400000 in
theorem FnExactPostText_walk (x0 : ElItem) (a1 : Int) (w : World) (_wf0 : okwItem x0) (_ : (Lit.int .i64 a1).wf = true) :
    Calls Try.prog 5 #[.agg #[encItem x0 0, encItem x0 1, encItem x0 2, encItem x0 3], .int .i64 a1] w fun e w' => e = .returned (.bool true) ∧ Below w.heap.size w w' := by
  by_cases hz0 : (byItem x0 : Int) ≤ 1048576
  · have y0 : szL (1048576) (byItem x0) = 1048576 - (byItem x0 : Int) := szL_yes hz0
    have d0 : decide (1048576 - (byItem x0 : Int) < 0) = false := decide_eq_false (by omega)
    have hbA : Below w.heap.size w (w.alloc (.cells #[encItem x0 0, encItem x0 1, encItem x0 2, encItem x0 3] 32)) := (Below.refl _ _).alloc (Nat.le_refl _) _
    have q0_0 : (w.alloc (.cells #[encItem x0 0, encItem x0 1, encItem x0 2, encItem x0 3] 32)).cell? ⟨w.heap.size, 0, none⟩ = some (encItem x0 0) := by rw [World.cell?_alloc_at _ _ _ _ rfl]; rfl
    have q0_1 : (w.alloc (.cells #[encItem x0 0, encItem x0 1, encItem x0 2, encItem x0 3] 32)).cell? ⟨w.heap.size, 1, none⟩ = some (encItem x0 1) := by rw [World.cell?_alloc_at _ _ _ _ rfl]; rfl
    have q0_2 : (w.alloc (.cells #[encItem x0 0, encItem x0 1, encItem x0 2, encItem x0 3] 32)).cell? ⟨w.heap.size, 2, none⟩ = some (encItem x0 2) := by rw [World.cell?_alloc_at _ _ _ _ rfl]; rfl
    have q0_3 : (w.alloc (.cells #[encItem x0 0, encItem x0 1, encItem x0 2, encItem x0 3] 32)).cell? ⟨w.heap.size, 3, none⟩ = some (encItem x0 3) := by rw [World.cell?_alloc_at _ _ _ _ rfl]; rfl
    have hzA : (w.alloc (.cells #[encItem x0 0, encItem x0 1, encItem x0 2, encItem x0 3] 32)).heap.size = w.heap.size + 1 := by simp
    go_enter Try.func5, Try.ntmps5
    go_wp2_with fail
    generalize (w.alloc (.cells #[encItem x0 0, encItem x0 1, encItem x0 2, encItem x0 3] 32)) = wA at *
    go_wp2_with fail
    have hsv0 := szItem_any x0.1 x0.2.1 x0.2.2.1 x0.2.2.2 (1048576) wA (by omega) (by omega) (okwVItem_0 _wf0) (okwVItem_1 _wf0) (okwVItem_2 _wf0)
    rw [show x0.1.size + x0.2.1.size + x0.2.2.1.size = byItem x0 from rfl, y0] at hsv0
    have HSV0 := Lib.hid hsv0
    clear hsv0
    refine HSV0.out.mono ?_
    rintro e v0 ⟨rfl, bz0⟩
    have z_v0 : wA.heap.size ≤ v0.heap.size := bz0.size
    have c_v0 : Below w.heap.size w v0 := hbA.trans (bz0.mono (by omega))
    have q0_0_v0 : v0.cell? ⟨w.heap.size, 0, none⟩ = some (encItem x0 0) := (bz0.cell (by show w.heap.size < _; omega)).trans q0_0
    have q0_1_v0 : v0.cell? ⟨w.heap.size, 1, none⟩ = some (encItem x0 1) := (bz0.cell (by show w.heap.size < _; omega)).trans q0_1
    have q0_2_v0 : v0.cell? ⟨w.heap.size, 2, none⟩ = some (encItem x0 2) := (bz0.cell (by show w.heap.size < _; omega)).trans q0_2
    have q0_3_v0 : v0.cell? ⟨w.heap.size, 3, none⟩ = some (encItem x0 3) := (bz0.cell (by show w.heap.size < _; omega)).trans q0_3
    go_wp2_with fail
    refine (toItem_any x0.1 x0.2.1 x0.2.2.1 x0.2.2.2 _).mono ?_
    rintro e w2 ⟨rfl, b1⟩
    have z_w2 : v0.heap.size ≤ w2.heap.size := b1.size
    have c_w2 : Below w.heap.size w w2 := c_v0.trans (b1.mono (by omega))
    have q0_0_w2 : w2.cell? ⟨w.heap.size, 0, none⟩ = some (encItem x0 0) := (b1.cell (by show w.heap.size < _; omega)).trans q0_0_v0
    have q0_1_w2 : w2.cell? ⟨w.heap.size, 1, none⟩ = some (encItem x0 1) := (b1.cell (by show w.heap.size < _; omega)).trans q0_1_v0
    have q0_2_w2 : w2.cell? ⟨w.heap.size, 2, none⟩ = some (encItem x0 2) := (b1.cell (by show w.heap.size < _; omega)).trans q0_2_v0
    have q0_3_w2 : w2.cell? ⟨w.heap.size, 3, none⟩ = some (encItem x0 3) := (b1.cell (by show w.heap.size < _; omega)).trans q0_3_v0
    go_wp2_with fail
    refine (specPostText_any x0 a1 _ (okwVItem_0 _wf0) (okwVItem_1 _wf0) (okwVItem_2 _wf0)).mono ?_
    rintro e w3 ⟨rfl, b2⟩
    have z_w3 : w2.heap.size ≤ w3.heap.size := b2.size
    have c_w3 : Below w.heap.size w w3 := c_w2.trans (b2.mono (by omega))
    have q0_0_w3 : w3.cell? ⟨w.heap.size, 0, none⟩ = some (encItem x0 0) := (b2.cell (by show w.heap.size < _; omega)).trans q0_0_w2
    have q0_1_w3 : w3.cell? ⟨w.heap.size, 1, none⟩ = some (encItem x0 1) := (b2.cell (by show w.heap.size < _; omega)).trans q0_1_w2
    have q0_2_w3 : w3.cell? ⟨w.heap.size, 2, none⟩ = some (encItem x0 2) := (b2.cell (by show w.heap.size < _; omega)).trans q0_2_w2
    have q0_3_w3 : w3.cell? ⟨w.heap.size, 3, none⟩ = some (encItem x0 3) := (b2.cell (by show w.heap.size < _; omega)).trans q0_3_w2
    go_wp2_with fail
    refine (toItem_any x0.1 x0.2.1 x0.2.2.1 x0.2.2.2 _).mono ?_
    rintro e w4 ⟨rfl, b3⟩
    have z_w4 : w3.heap.size ≤ w4.heap.size := b3.size
    have c_w4 : Below w.heap.size w w4 := c_w3.trans (b3.mono (by omega))
    have q0_0_w4 : w4.cell? ⟨w.heap.size, 0, none⟩ = some (encItem x0 0) := (b3.cell (by show w.heap.size < _; omega)).trans q0_0_w3
    have q0_1_w4 : w4.cell? ⟨w.heap.size, 1, none⟩ = some (encItem x0 1) := (b3.cell (by show w.heap.size < _; omega)).trans q0_1_w3
    have q0_2_w4 : w4.cell? ⟨w.heap.size, 2, none⟩ = some (encItem x0 2) := (b3.cell (by show w.heap.size < _; omega)).trans q0_2_w3
    have q0_3_w4 : w4.cell? ⟨w.heap.size, 3, none⟩ = some (encItem x0 3) := (b3.cell (by show w.heap.size < _; omega)).trans q0_3_w3
    go_wp2_with fail
    refine (implPostText_any x0 a1 _ (okwVItem_0 _wf0) (okwVItem_1 _wf0) (okwVItem_2 _wf0)).mono ?_
    rintro e w5 ⟨rfl, b4⟩
    have z_w5 : w4.heap.size ≤ w5.heap.size := b4.size
    have c_w5 : Below w.heap.size w w5 := c_w4.trans (b4.mono (by omega))
    have q0_0_w5 : w5.cell? ⟨w.heap.size, 0, none⟩ = some (encItem x0 0) := (b4.cell (by show w.heap.size < _; omega)).trans q0_0_w4
    have q0_1_w5 : w5.cell? ⟨w.heap.size, 1, none⟩ = some (encItem x0 1) := (b4.cell (by show w.heap.size < _; omega)).trans q0_1_w4
    have q0_2_w5 : w5.cell? ⟨w.heap.size, 2, none⟩ = some (encItem x0 2) := (b4.cell (by show w.heap.size < _; omega)).trans q0_2_w4
    have q0_3_w5 : w5.cell? ⟨w.heap.size, 3, none⟩ = some (encItem x0 3) := (b4.cell (by show w.heap.size < _; omega)).trans q0_3_w4
    go_wp2_with fail
    go_ret
    exact ⟨rfl, c_w5⟩
  · have y0 : szL (1048576) (byItem x0) = -1 := szL_no (by omega)
    have hbA : Below w.heap.size w (w.alloc (.cells #[encItem x0 0, encItem x0 1, encItem x0 2, encItem x0 3] 32)) := (Below.refl _ _).alloc (Nat.le_refl _) _
    go_enter Try.func5, Try.ntmps5
    go_wp2_with fail
    have hsv0 := szItem_any x0.1 x0.2.1 x0.2.2.1 x0.2.2.2 (1048576) (w.alloc (.cells #[encItem x0 0, encItem x0 1, encItem x0 2, encItem x0 3] 32)) (by omega) (by omega) (okwVItem_0 _wf0) (okwVItem_1 _wf0) (okwVItem_2 _wf0)
    rw [show x0.1.size + x0.2.1.size + x0.2.2.1.size = byItem x0 from rfl, y0] at hsv0
    have HSV0 := Lib.hid hsv0
    clear hsv0
    refine HSV0.out.mono ?_
    rintro e u0 ⟨rfl, bu0⟩
    have cu0 := hbA.trans (bu0.mono hbA.size)
    go_wp2_with fail
    go_ret
    exact ⟨rfl, cu0⟩
end Go.Proofs.Ytnmgfpphihieiaa
