/- The draws of PostText. -/
import Derived.Test.YtnmgfpphihieiaaDrawItem
import Derived.Test.YtnmgfpphihieiaaDrawTexts
namespace Go.Proofs.Ytnmgfpphihieiaa
open Go.RowKit
def DrawnPt (w : World) (e : Ending) (w' : World) : Prop := ∃ (p : ElItem) (many : Int), e = .returned (.tuple #[.agg #[.string p.1, .string p.2.1, .string p.2.2.1, .int .i64 p.2.2.2], .int .i64 many]) ∧ p.1.size ≤ 81 ∧ p.2.1.size ≤ 81 ∧ p.2.2.1.size ≤ 81 ∧ Below w.heap.size w w'
theorem keptN {sz e base N g cap n : Nat} {w w' : World} {f : Nat → Value} (h : Own w base e sz (some ⟨N, 0, none⟩) n cap f) (hg : w.grownBy w' (some g)) (hne : N ≠ g) : Own w' base e sz (some ⟨N, 0, none⟩) n cap f :=
  Own.kept h hg (.inr (fun e => by injection e with e; exact hne e))
set_option maxHeartbeats 800000 in
theorem DrawPostText_any (A : Option Addr) (cap B : Nat) (cs : List Int) (w : World) (h : RdU w B A cs) (hB : B ≤ w.heap.size) (hb : ∀ j, 0 ≤ PP.at_ cs j ∧ PP.at_ cs j ≤ 255) (hc : cs.length ≤ cap) (hl : cs.length ≤ 1048576) : Calls Try.prog 19 #[.slice A cs.length cap] w (DrawnPt w) := by
  have oR : OwnE 4 encItem 35 (w.alloc (.cells #[.string { data := #[] }, .string { data := #[] }, .string { data := #[] }, .int .i64 0] 35)) w.heap.size (some ⟨w.heap.size, 0, none⟩) 1 [({ data := #[] }, { data := #[] }, { data := #[] }, 0)] := Own.lit w 35 4 1 #[.string { data := #[] }, .string { data := #[] }, .string { data := #[] }, .int .i64 0] (cE 4 encItem [({ data := #[] }, { data := #[] }, { data := #[] }, 0)]) (by simp only [maxLen]; omega) rfl
  have hbA : Below w.heap.size w (w.alloc (.cells #[.string { data := #[] }, .string { data := #[] }, .string { data := #[] }, .int .i64 0] 35)) := (Below.refl _ _).alloc (Nat.le_refl _) _
  have hzA : (w.alloc (.cells #[.string { data := #[] }, .string { data := #[] }, .string { data := #[] }, .int .i64 0] 35)).heap.size = w.heap.size + 1 := by simp
  have hA := Rd.below h (hbA.mono hB)
  go_enter Try.func19, Try.ntmps19
  go_wp2_with fail
  have HZ := Lib.hid hzA
  clear hzA
  generalize (w.alloc (.cells #[.string { data := #[] }, .string { data := #[] }, .string { data := #[] }, .int .i64 0] 35)) = wA at *
  refine (l20Open_any A cap B cs wA hA (Nat.le_trans hB hbA.size) hb hc hl).mono ?_
  rintro e w1 ⟨rfl, hr1, hb1⟩
  have hsA : w.heap.size + 1 ≤ wA.heap.size := by rw [HZ.out]; exact Nat.le_refl _
  have oR1 := Own.below oR hb1
  have hbw1 := hbA.trans (hb1.mono hbA.size)
  have hlt := hr1.lt
  clear oR hbA hA HZ
  go_wp2_with fail
  refine (l20Item_any _ 0 _ _ hr1 (by omega) (by omega) (by omega)).mono ?_
  rintro e w2 ⟨p, rfl, hp0, hp1, hp2, hr2, hg2⟩
  have oR2 := keptN oR1 hg2 (by omega)
  have hs2 := hg2.size
  have hbw2 := hbw1.trans ((Below.refl w.heap.size _).grown hg2 (by omega) (fun i hi => by injection hi with hi; omega))
  obtain ⟨a, b, c, d⟩ := p
  have hp0 : a.size ≤ 81 := hp0
  have hp1 : b.size ≤ 81 := hp1
  have hp2 : c.size ≤ 81 := hp2
  have e0 : (w2.alloc (.cells #[.string a, .string b, .string c, .int .i64 d] 35)).cell? ⟨w2.heap.size, 0, none⟩ = some (.string a) := by rw [World.cell?_alloc_at _ _ _ _ rfl]; rfl
  have e1 : (w2.alloc (.cells #[.string a, .string b, .string c, .int .i64 d] 35)).cell? ⟨w2.heap.size, 1, none⟩ = some (.string b) := by rw [World.cell?_alloc_at _ _ _ _ rfl]; rfl
  have e2 : (w2.alloc (.cells #[.string a, .string b, .string c, .int .i64 d] 35)).cell? ⟨w2.heap.size, 2, none⟩ = some (.string c) := by rw [World.cell?_alloc_at _ _ _ _ rfl]; rfl
  have e3 : (w2.alloc (.cells #[.string a, .string b, .string c, .int .i64 d] 35)).cell? ⟨w2.heap.size, 3, none⟩ = some (.int .i64 d) := by rw [World.cell?_alloc_at _ _ _ _ rfl]; rfl
  have oRX := Own.below oR2 ((Below.refl _ _).alloc (Nat.le_refl _) (.cells #[.string a, .string b, .string c, .int .i64 d] 35))
  have hrX := hr2.alloc (.cells #[.string a, .string b, .string c, .int .i64 d] 35)
  have hzX : w2.heap.size < (w2.alloc (.cells #[.string a, .string b, .string c, .int .i64 d] 35)).heap.size := by simp
  have hbwX := hbw2.alloc (by omega : w.heap.size ≤ w2.heap.size) (.cells #[.string a, .string b, .string c, .int .i64 d] 35)
  clear oR1 oR2 hbw1 hbw2 hr1 hr2 hg2
  go_wp2_with fail
  generalize (w2.alloc (.cells #[.string a, .string b, .string c, .int .i64 d] 35)) = wX at *
  refine wp_region_draws wA.heap.size 3 _ [(vS (fun v => v = (.agg #[.string a, .string b, .string c, .int .i64 d]))), (vS (fun v => v = (.pointer (some ⟨wA.heap.size, 0, none⟩)))), (vS (fun v => ∃ x : Int, v = .int .i64 x))] [0, 0, 2] (by kernel_rfl) (by kernel_rfl) (by rfl) (by rfl) (by rfl) ?_ hrX ?_ ?_
  · repeat (first | exact stb_nil _ | refine stb_cons (vS_stb _ _) ?_)
  · simp only [List.take_succ_cons, List.take_zero]
    refine looseSteps_cons (fun k a' w' hk0 hk1 hR hG hkp hd => ?_) ?_
    · have k0 : a'.tmps.getD 5 undef = .pointer (some ⟨w2.heap.size, 0, none⟩) := hkp 5 (by rfl)
      have hR0 : World.grownBy wX.drew w' (some wA.heap.size) := hR
      have q0 := (cell_stb hR0 (i := 0) (show wA.heap.size < w2.heap.size by omega) hzX).trans e0
      have q1 := (cell_stb hR0 (i := 1) (show wA.heap.size < w2.heap.size by omega) hzX).trans e1
      have q2 := (cell_stb hR0 (i := 2) (show wA.heap.size < w2.heap.size by omega) hzX).trans e2
      have q3 := (cell_stb hR0 (i := 3) (show wA.heap.size < w2.heap.size by omega) hzX).trans e3
      unfold looseRun
      go_simp
      exact ⟨World.grownBy.refl _ _, hG, rfl⟩
    refine looseSteps_cons (fun k a' w' hk0 hk1 hR hG hkp hd => ?_) ?_
    · have k0 : a'.tmps.getD 4 undef = (.pointer (some ⟨wA.heap.size, 0, none⟩)) := hkp 4 (by rfl)
      unfold looseRun
      go_simp
      exact ⟨World.grownBy.refl _ _, hG, rfl⟩
    refine looseSteps_cons (fun k a' w' hk0 hk1 hR hG hkp hd => ?_) ?_
    · have e11 := hd.1 rfl
      have e11' : a'.tmps.getD 11 undef = _ := e11
      have e11q := e11'
      rw [Array.getD_eq_getD_getElem?] at e11q
      clear e11
      unfold looseRun
      go_simp
      refine ⟨rfl, (l20Room_any _ k _ hG (by simp at hk1; omega)).mono ?_⟩
      rintro e w4 ⟨x, rfl, _, _, hr4, hg4⟩
      exact ⟨_, rfl, hg4, hr4, x, rfl⟩
    exact looseSteps_nil
  · intro w4 hg4 hr4
    simp only [List.take_succ_cons, List.take_zero, List.drop_succ_cons, List.drop_zero]
    refine looseAll_cons fun v10 h10 => ?_
    refine looseAll_cons fun v11 h11 => ?_
    refine looseAll_cons fun v12 h12 => ?_
    refine looseAll_nil ?_
    obtain rfl := h10
    obtain ⟨x, rfl⟩ := h12
    simp only [Act.put, List.setIfInBounds_toArray, List.set_cons_zero, List.set_cons_succ]
    have hs4 := hg4.size
    have oR4 := keptN oRX hg4 (by omega)
    have hbw4 := hbwX.trans ((Below.refl w.heap.size _).grown hg4 (by omega) (fun i hi => by injection hi with hi; omega))
    have r0 : w4.cell? ⟨w.heap.size, 0, none⟩ = some (Value.string { data := #[] }) := oR4.cell rfl (j := 0) (by simp)
    have rf0 : w4.frozen? ⟨w.heap.size, 0, none⟩ = false := oR4.frozen rfl 0
    have r1 : w4.cell? ⟨w.heap.size, 1, none⟩ = some (Value.string { data := #[] }) := oR4.cell rfl (j := 1) (by simp)
    have rf1 : w4.frozen? ⟨w.heap.size, 1, none⟩ = false := oR4.frozen rfl 1
    have r2 : w4.cell? ⟨w.heap.size, 2, none⟩ = some (Value.string { data := #[] }) := oR4.cell rfl (j := 2) (by simp)
    have rf2 : w4.frozen? ⟨w.heap.size, 2, none⟩ = false := oR4.frozen rfl 2
    have r3 : w4.cell? ⟨w.heap.size, 3, none⟩ = some (Value.int .i64 0) := oR4.cell rfl (j := 3) (by simp)
    have rf3 : w4.frozen? ⟨w.heap.size, 3, none⟩ = false := oR4.frozen rfl 3
    go_wp2_with fail
    exact bodyPost_ret (v := .tuple #[(.agg #[.string a, .string b, .string c, .int .i64 d]), .int .i64 x]) (by simp [results, Try.results19, go_sem, r0, r1, r2, r3, rf0, rf1, rf2, rf3]) rfl ⟨(a, b, c, d), x, rfl, hp0, hp1, hp2, (((hbw4.setCell (Nat.le_refl _) _).setCell (Nat.le_refl _) _).setCell (Nat.le_refl _) _).setCell (Nat.le_refl _) _⟩
end Go.Proofs.Ytnmgfpphihieiaa
