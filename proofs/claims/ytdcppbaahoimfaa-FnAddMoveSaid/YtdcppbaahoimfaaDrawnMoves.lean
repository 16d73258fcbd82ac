import Derived.Test.YtdcppbaahoimfaaDrawMoves
namespace Go.Proofs.Ytdcppbaahoimfaa
open Go.RowKit
def DrawnM (w : World) (e : Ending) (w' : World) : Prop := ∃ (A : Option Addr) (cap : Nat) (xs : List ElMove), e = .returned (.slice A xs.length cap) ∧ xs.length ≤ 9 ∧ (∀ k, k < xs.length → (gt xs k).1.1.size ≤ maxLen ∧ (gt xs k).1.2.size ≤ maxLen ∧ (gt xs k).2.1.size ≤ maxLen ∧ (gt xs k).2.2.size ≤ maxLen) ∧ OwnE 4 encMove 30 w' w.heap.size A cap xs ∧ Below w.heap.size w w'
def DrawnMH (w : World) (e : Ending) (w' : World) : Prop := ∃ (A : Option Addr) (cap : Nat) (xs : List ElMove) (h : ElHandle), e = .returned (.tuple #[.slice A xs.length cap, .agg #[.string h.1, .string h.2]]) ∧ xs.length ≤ 9 ∧ (∀ k, k < xs.length → (gt xs k).1.1.size ≤ maxLen ∧ (gt xs k).1.2.size ≤ maxLen ∧ (gt xs k).2.1.size ≤ maxLen ∧ (gt xs k).2.2.size ≤ maxLen) ∧ (h.1.size ≤ maxLen ∧ h.2.size ≤ maxLen) ∧ OwnE 4 encMove 30 w' w.heap.size A cap xs ∧ Below w.heap.size w w'
def DrawnMM (w : World) (e : Ending) (w' : World) : Prop := ∃ (A : Option Addr) (cap : Nat) (xs : List ElMove) (m : ElMove), e = .returned (.tuple #[.slice A xs.length cap, .agg #[.string m.1.1, .string m.1.2, .string m.2.1, .string m.2.2]]) ∧ xs.length ≤ 9 ∧ (∀ k, k < xs.length → (gt xs k).1.1.size ≤ maxLen ∧ (gt xs k).1.2.size ≤ maxLen ∧ (gt xs k).2.1.size ≤ maxLen ∧ (gt xs k).2.2.size ≤ maxLen) ∧ (m.1.1.size ≤ maxLen ∧ m.1.2.size ≤ maxLen ∧ m.2.1.size ≤ maxLen ∧ m.2.2.size ≤ maxLen) ∧ OwnE 4 encMove 30 w' w.heap.size A cap xs ∧ Below w.heap.size w w'
/-- What stands below the reader is kept. -/
theorem keptN {sz e base N g cap n : Nat} {w w' : World} {f : Nat → Value} (h : Own w base e sz (some ⟨N, 0, none⟩) n cap f) (hg : w.grownBy w' (some g)) (hne : N ≠ g) : Own w' base e sz (some ⟨N, 0, none⟩) n cap f :=
  Own.kept h hg (.inr (fun e => by injection e with e; exact hne e))
set_option maxHeartbeats 800000 in
theorem DrawMovesValid_any (A : Option Addr) (cap B : Nat) (cs : List Int) (w : World) (h : RdU w B A cs) (hB : B ≤ w.heap.size) (hb : ∀ j, 0 ≤ PP.at_ cs j ∧ PP.at_ cs j ≤ 255) (hc : cs.length ≤ cap) (hl : cs.length ≤ 1048576) :
    Calls Try.prog 11 #[.slice A cs.length cap] w (DrawnM w) := by
  go_enter Try.func11, Try.ntmps11
  go_wp2_with fail
  refine (l20Open_any A cap B cs w h hB hb hc hl).mono ?_
  rintro e w1 ⟨rfl, hr1, hb1⟩
  have hlt := hr1.lt
  have hs1 := hb1.size
  go_wp2_with fail
  refine (l20Moves_any _ 0 _ _ hr1 (by omega) (by omega) (by omega)).mono ?_
  rintro e w2 ⟨T, cap', xs, rfl, hx, hsz, hown, hr2, hg2⟩
  have HSZ := Lib.hid hsz
  clear hsz
  have hs2 := hg2.size
  go_wp2_with fail
  go_ret
  exact ⟨T, cap', xs, rfl, hx, HSZ.out, Own.more hown hs1, below_of_only' hb1 hg2 (Nat.le_refl _)⟩
set_option maxHeartbeats 800000 in
theorem DrawWhereIs_any (A : Option Addr) (cap B : Nat) (cs : List Int) (w : World) (h : RdU w B A cs) (hB : B ≤ w.heap.size) (hb : ∀ j, 0 ≤ PP.at_ cs j ∧ PP.at_ cs j ≤ 255) (hc : cs.length ≤ cap) (hl : cs.length ≤ 1048576) :
    Calls Try.prog 18 #[.slice A cs.length cap] w (DrawnMH w) := by
  have oR : OwnE 2 encHandle 28 (w.alloc (.cells #[.string { data := #[] }, .string { data := #[] }] 28)) w.heap.size (some ⟨w.heap.size, 0, none⟩) 1 [({ data := #[] }, { data := #[] })] := Own.lit w 28 2 1 #[.string { data := #[] }, .string { data := #[] }] (cE 2 encHandle [({ data := #[] }, { data := #[] })]) (by simp only [maxLen]; omega) rfl
  have hbA : Below w.heap.size w (w.alloc (.cells #[.string { data := #[] }, .string { data := #[] }] 28)) := (Below.refl _ _).alloc (Nat.le_refl _) _
  have hzA : (w.alloc (.cells #[.string { data := #[] }, .string { data := #[] }] 28)).heap.size = w.heap.size + 1 := by simp
  have hA := Rd.below h (hbA.mono hB)
  go_enter Try.func18, Try.ntmps18
  go_wp2_with fail
  have HZ := Lib.hid hzA
  clear hzA
  generalize (w.alloc (.cells #[.string { data := #[] }, .string { data := #[] }] 28)) = wA at *
  refine (l20Open_any A cap B cs wA hA (Nat.le_trans hB hbA.size) hb hc hl).mono ?_
  rintro e w1 ⟨rfl, hr1, hb1⟩
  have hsA : w.heap.size + 1 ≤ wA.heap.size := by rw [HZ.out]; exact Nat.le_refl _
  have oR1 := Own.below oR hb1
  have hbw1 := hbA.trans (hb1.mono hbA.size)
  clear oR hbA hA HZ
  have hlt := hr1.lt
  have hs1 := hb1.size
  go_wp2_with fail
  refine (l20Moves_any _ 0 _ _ hr1 (by omega) (by omega) (by omega)).mono ?_
  rintro e w2 ⟨T, cap', xs, rfl, hx, hsz, hown, hr2, hg2⟩
  have HSZ := Lib.hid hsz
  clear hsz
  have hs2 := hg2.size
  have oR2 := keptN oR1 hg2 (by omega)
  have hbw2 := (hbw1.trans ((Below.refl w.heap.size _).grown hg2 (by omega) (fun i hi => by injection hi with hi; omega)))
  go_wp2_with fail
  refine (l20Place_any _ _ _ _ hr2 (by omega) (by omega) (by omega)).mono ?_
  rintro e w3 ⟨a, b, rfl, ha, hb3, hr3, hg3⟩
  have hs3 := hg3.size
  have oR3 := keptN oR2 hg3 (by omega)
  have hbw3 := (hbw2.trans ((Below.refl w.heap.size _).grown hg3 (by omega) (fun i hi => by injection hi with hi; omega)))
  have hown3 := keptG hown hg3 hlt
  have r0 : w3.cell? ⟨w.heap.size, 0, none⟩ = some (Value.string { data := #[] }) := oR3.cell rfl (j := 0) (by simp)
  have rf0 : w3.frozen? ⟨w.heap.size, 0, none⟩ = false := oR3.frozen rfl 0
  have r1 : w3.cell? ⟨w.heap.size, 1, none⟩ = some (Value.string { data := #[] }) := oR3.cell rfl (j := 1) (by simp)
  have rf1 : w3.frozen? ⟨w.heap.size, 1, none⟩ = false := oR3.frozen rfl 1
  have hfin : Hid (Below w1.heap.size w3 ((w3.setCell ⟨w.heap.size, 0, none⟩ (.string a)).setCell ⟨w.heap.size, 1, none⟩ (.string b)) → True) := Lib.hid (fun _ => trivial)
  have hownF : OwnE 4 encMove 30 ((w3.setCell ⟨w.heap.size, 0, none⟩ (.string a)).setCell ⟨w.heap.size, 1, none⟩ (.string b)) w1.heap.size T cap' xs := by
    have s0 := oR3.set rfl (j := 0) (Value.string a)
    have s1 := (s0.1).set rfl (j := 1) (Value.string b)
    have hg := (s0.2).trans s1.2
    exact Own.kept hown3 hg (blk_ne' (B := w.heap.size + 1) (fun b hb => by simp [blk] at hb; omega) (fun b hb => by have := (Own.lt hown3 hb).1; omega))
  go_wp2_with fail
  exact bodyPost_ret (v := .tuple #[.slice T xs.length cap', .agg #[.string a, .string b]]) (by simp [results, Try.results18, go_sem, r0, r1, rf0, rf1]) rfl ⟨T, cap', xs, (a, b), rfl, hx, HSZ.out, ⟨sz40 ha, sz40 hb3⟩, Own.more hownF (by omega), (hbw3.setCell (Nat.le_refl _) _).setCell (Nat.le_refl _) _⟩
set_option maxHeartbeats 800000 in
theorem DrawAddMove_any (A : Option Addr) (cap B : Nat) (cs : List Int) (w : World) (h : RdU w B A cs) (hB : B ≤ w.heap.size) (hb : ∀ j, 0 ≤ PP.at_ cs j ∧ PP.at_ cs j ≤ 255) (hc : cs.length ≤ cap) (hl : cs.length ≤ 1048576) :
    Calls Try.prog 25 #[.slice A cs.length cap] w (DrawnMM w) := by
  have oR : OwnE 4 encMove 30 (w.alloc (.cells #[.string { data := #[] }, .string { data := #[] }, .string { data := #[] }, .string { data := #[] }] 30)) w.heap.size (some ⟨w.heap.size, 0, none⟩) 1 [(({ data := #[] }, { data := #[] }), ({ data := #[] }, { data := #[] }))] := Own.lit w 30 4 1 #[.string { data := #[] }, .string { data := #[] }, .string { data := #[] }, .string { data := #[] }] (cE 4 encMove [(({ data := #[] }, { data := #[] }), ({ data := #[] }, { data := #[] }))]) (by simp only [maxLen]; omega) rfl
  have hbA : Below w.heap.size w (w.alloc (.cells #[.string { data := #[] }, .string { data := #[] }, .string { data := #[] }, .string { data := #[] }] 30)) := (Below.refl _ _).alloc (Nat.le_refl _) _
  have hzA : (w.alloc (.cells #[.string { data := #[] }, .string { data := #[] }, .string { data := #[] }, .string { data := #[] }] 30)).heap.size = w.heap.size + 1 := by simp
  have hA := Rd.below h (hbA.mono hB)
  go_enter Try.func25, Try.ntmps25
  go_wp2_with fail
  have HZ := Lib.hid hzA
  clear hzA
  generalize (w.alloc (.cells #[.string { data := #[] }, .string { data := #[] }, .string { data := #[] }, .string { data := #[] }] 30)) = wA at *
  refine (l20Open_any A cap B cs wA hA (Nat.le_trans hB hbA.size) hb hc hl).mono ?_
  rintro e w1 ⟨rfl, hr1, hb1⟩
  have hsA : w.heap.size + 1 ≤ wA.heap.size := by rw [HZ.out]; exact Nat.le_refl _
  have oR1 := Own.below oR hb1
  have hbw1 := hbA.trans (hb1.mono hbA.size)
  clear oR hbA hA HZ
  have hlt := hr1.lt
  have hs1 := hb1.size
  go_wp2_with fail
  refine (l20Moves_any _ 0 _ _ hr1 (by omega) (by omega) (by omega)).mono ?_
  rintro e w2 ⟨T, cap', xs, rfl, hx, hsz, hown, hr2, hg2⟩
  have HSZ := Lib.hid hsz
  clear hsz
  have hs2 := hg2.size
  have oR2 := keptN oR1 hg2 (by omega)
  have hbw2 := (hbw1.trans ((Below.refl w.heap.size _).grown hg2 (by omega) (fun i hi => by injection hi with hi; omega)))
  go_wp2_with fail
  refine (l20Place_any _ _ _ _ hr2 (by omega) (by omega) (by omega)).mono ?_
  rintro e w3 ⟨a, b, rfl, ha, hb3, hr3, hg3⟩
  have hs3 := hg3.size
  have oR3 := keptN oR2 hg3 (by omega)
  have hbw3 := (hbw2.trans ((Below.refl w.heap.size _).grown hg3 (by omega) (fun i hi => by injection hi with hi; omega)))
  have hown3 := keptG hown hg3 hlt
  have e0 : (w3.alloc (.cells #[.string a, .string b] 28)).cell? ⟨w3.heap.size, 0, none⟩ = some (.string a) := by rw [World.cell?_alloc_at _ _ _ _ rfl]; rfl
  have e1 : (w3.alloc (.cells #[.string a, .string b] 28)).cell? ⟨w3.heap.size, 1, none⟩ = some (.string b) := by rw [World.cell?_alloc_at _ _ _ _ rfl]; rfl
  have oRX := Own.below oR3 ((Below.refl _ _).alloc (Nat.le_refl _) (.cells #[.string a, .string b] 28))
  have hownX := Own.below hown3 ((Below.refl _ _).alloc (Nat.le_refl _) (.cells #[.string a, .string b] 28))
  have hrX := hr3.alloc (.cells #[.string a, .string b] 28)
  have hzX : w3.heap.size < (w3.alloc (.cells #[.string a, .string b] 28)).heap.size := by simp
  have hbwX := hbw3.alloc (by omega : w.heap.size ≤ w3.heap.size) (.cells #[.string a, .string b] 28)
  clear oR3 hown3 hbw3 oR1 oR2
  go_wp2_with fail
  generalize (w3.alloc (.cells #[.string a, .string b] 28)) = wX at *
  refine wp_region_draws wA.heap.size 6 _ [(vS (fun v => v = (.slice T xs.length cap'))), (vS (fun v => v = (.agg #[.string a, .string b]))), (vS (fun v => v = (.pointer (some ⟨wA.heap.size, 0, none⟩)))), (vS (fun v => ∃ p q : ByteArray, v = .agg #[.string p, .string q] ∧ p.size ≤ 40 ∧ q.size ≤ 40)), (vS (fun v => ∃ p q : ByteArray, v = .agg #[.string a, .string b, .string p, .string q] ∧ p.size ≤ 40 ∧ q.size ≤ 40)), (vS (fun v => v = (.slice T xs.length cap')))] [0, 0, 0, 3, 0, 0] (by kernel_rfl) (by kernel_rfl) (by rfl) (by rfl) (by rfl) ?_ hrX ?_ ?_
  · repeat (first | exact stb_nil _ | refine stb_cons (vS_stb _ _) ?_)
  · simp only [List.take_succ_cons, List.take_zero]
    refine looseSteps_cons (fun k a' w' hk0 hk1 hR hG hkp hd => ?_) ?_
    · have k0 : a'.tmps.getD 5 undef = (.slice T xs.length cap') := hkp 5 (by rfl)
      unfold looseRun
      go_simp
      exact ⟨World.grownBy.refl _ _, hG, rfl⟩
    refine looseSteps_cons (fun k a' w' hk0 hk1 hR hG hkp hd => ?_) ?_
    · have k0 : a'.tmps.getD 6 undef = .pointer (some ⟨w3.heap.size, 0, none⟩) := hkp 6 (by rfl)
      have hR0 : World.grownBy wX.drew w' (some wA.heap.size) := hR
      have q0 := (cell_stb hR0 (i := 0) (show wA.heap.size < w3.heap.size by omega) hzX).trans e0
      have q1 := (cell_stb hR0 (i := 1) (show wA.heap.size < w3.heap.size by omega) hzX).trans e1
      unfold looseRun
      go_simp
      exact ⟨World.grownBy.refl _ _, hG, rfl⟩
    refine looseSteps_cons (fun k a' w' hk0 hk1 hR hG hkp hd => ?_) ?_
    · have k0 : a'.tmps.getD 4 undef = (.pointer (some ⟨wA.heap.size, 0, none⟩)) := hkp 4 (by rfl)
      unfold looseRun
      go_simp
      exact ⟨World.grownBy.refl _ _, hG, rfl⟩
    refine looseSteps_cons (fun k a' w' hk0 hk1 hR hG hkp hd => ?_) ?_
    · have e15 := hd.1 rfl
      have e15' : a'.tmps.getD 15 undef = _ := e15
      have e15q := e15'
      rw [Array.getD_eq_getD_getElem?] at e15q
      clear e15
      unfold looseRun
      go_simp
      refine ⟨rfl, (l20Place_any _ k _ _ hG (by simp at hk1; omega) (by omega) (by omega)).mono ?_⟩
      rintro e w4 ⟨p, q, rfl, hp, hq, hr4, hg4⟩
      exact ⟨_, rfl, hg4, hr4, p, q, rfl, hp, hq⟩
    refine looseSteps_cons (fun k a' w' hk0 hk1 hR hG hkp hd => ?_) ?_
    · have e14 := hd.1 rfl
      obtain ⟨p, q, e16, hp, hq⟩ := hd.2.1 rfl
      have e14' : a'.tmps.getD 14 undef = _ := e14
      have e14q := e14'
      rw [Array.getD_eq_getD_getElem?] at e14q
      clear e14
      have e16' : a'.tmps.getD 16 undef = _ := e16
      have e16q := e16'
      rw [Array.getD_eq_getD_getElem?] at e16q
      clear e16
      unfold looseRun
      go_simp
      exact ⟨World.grownBy.refl _ _, hG, p, q, rfl, hp, hq⟩
    refine looseSteps_cons (fun k a' w' hk0 hk1 hR hG hkp hd => ?_) ?_
    · have e13 := hd.1 rfl
      have e13' : a'.tmps.getD 13 undef = _ := e13
      have e13q := e13'
      rw [Array.getD_eq_getD_getElem?] at e13q
      clear e13
      unfold looseRun
      go_simp
      exact ⟨World.grownBy.refl _ _, hG, rfl⟩
    exact looseSteps_nil
  · intro w4 hg4 hr4
    simp only [List.take_succ_cons, List.take_zero, List.drop_succ_cons, List.drop_zero]
    refine looseAll_cons fun v13 h13 => ?_
    refine looseAll_cons fun v14 h14 => ?_
    refine looseAll_cons fun v15 h15 => ?_
    refine looseAll_cons fun v16 h16 => ?_
    refine looseAll_cons fun v17 h17 => ?_
    refine looseAll_cons fun v2 h2 => ?_
    refine looseAll_nil ?_
    obtain ⟨p, q, rfl, hp, hq⟩ := h17
    obtain rfl := h2
    simp only [Act.put, List.setIfInBounds_toArray, List.set_cons_zero, List.set_cons_succ]
    have hs4 := hg4.size
    have oR4 := keptN oRX hg4 (by omega)
    have hbw4 := (hbwX.trans ((Below.refl w.heap.size _).grown hg4 (by omega) (fun i hi => by injection hi with hi; omega)))
    have hown4 := keptG hownX hg4 hlt
    have r0 : w4.cell? ⟨w.heap.size, 0, none⟩ = some (Value.string { data := #[] }) := oR4.cell rfl (j := 0) (by simp)
    have rf0 : w4.frozen? ⟨w.heap.size, 0, none⟩ = false := oR4.frozen rfl 0
    have r1 : w4.cell? ⟨w.heap.size, 1, none⟩ = some (Value.string { data := #[] }) := oR4.cell rfl (j := 1) (by simp)
    have rf1 : w4.frozen? ⟨w.heap.size, 1, none⟩ = false := oR4.frozen rfl 1
    have r2 : w4.cell? ⟨w.heap.size, 2, none⟩ = some (Value.string { data := #[] }) := oR4.cell rfl (j := 2) (by simp)
    have rf2 : w4.frozen? ⟨w.heap.size, 2, none⟩ = false := oR4.frozen rfl 2
    have r3 : w4.cell? ⟨w.heap.size, 3, none⟩ = some (Value.string { data := #[] }) := oR4.cell rfl (j := 3) (by simp)
    have rf3 : w4.frozen? ⟨w.heap.size, 3, none⟩ = false := oR4.frozen rfl 3
    have hownF : OwnE 4 encMove 30 ((((w4.setCell ⟨w.heap.size, 0, none⟩ (.string a)).setCell ⟨w.heap.size, 1, none⟩ (.string b)).setCell ⟨w.heap.size, 2, none⟩ (.string p)).setCell ⟨w.heap.size, 3, none⟩ (.string q)) w1.heap.size T cap' xs := by
      have s0 := oR4.set rfl (j := 0) (Value.string a)
      have s1 := (s0.1).set rfl (j := 1) (Value.string b)
      have s2 := (s1.1).set rfl (j := 2) (Value.string p)
      have s3 := (s2.1).set rfl (j := 3) (Value.string q)
      have hg := (((s0.2).trans s1.2).trans s2.2).trans s3.2
      exact Own.kept hown4 hg (blk_ne' (B := w.heap.size + 1) (fun b hb => by simp [blk] at hb; omega) (fun b hb => by have := (Own.lt hown4 hb).1; omega))
    go_wp2_with fail
    exact bodyPost_ret (v := .tuple #[.slice T xs.length cap', .agg #[.string a, .string b, .string p, .string q]]) (by simp [results, Try.results25, go_sem, r0, r1, r2, r3, rf0, rf1, rf2, rf3]) rfl ⟨T, cap', xs, ((a, b), (p, q)), rfl, hx, HSZ.out, ⟨sz40 ha, sz40 hb3, sz40 hp, sz40 hq⟩, Own.more hownF (by omega), (((hbw4.setCell (Nat.le_refl _) _).setCell (Nat.le_refl _) _).setCell (Nat.le_refl _) _).setCell (Nat.le_refl _) _⟩
end Go.Proofs.Ytdcppbaahoimfaa
