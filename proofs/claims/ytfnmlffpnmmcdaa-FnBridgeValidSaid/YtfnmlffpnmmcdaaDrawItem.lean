/- The draws of an item. -/
import Derived.Test.YtfnmlffpnmmcdaaDrawDay
import Derived.Test.YtfnmlffpnmmcdaaDrawText
import Derived.Test.YtfnmlffpnmmcdaaDrawWord
import Derived.Test.YtfnmlffpnmmcdaaItem
namespace Go.Proofs.Ytfnmlffpnmmcdaa
open Go.RowKit
def DrewIt (g m : Nat) (w : World) (e : Ending) (w' : World) : Prop := ∃ p : ElItem, e = .returned (.agg #[.string p.1, .string p.2.1, .string p.2.2.1, .int .i64 p.2.2.2]) ∧ p.1.size ≤ 81 ∧ p.2.1.size ≤ 81 ∧ p.2.2.1.size ≤ 81 ∧ Rdr w' g m ∧ w.grownBy w' (some g)
theorem keptI {sz e base g cap : Nat} {enc : ElItem → Nat → Value} {w w' : World} {A : Option Addr} {xs : List ElItem} (h : OwnE sz enc e w base A cap xs) (hg : w.grownBy w' (some g)) (hlt : g < base) : OwnE sz enc e w' base A cap xs :=
  Own.kept h hg (by
    cases hA : blk A with
    | none => exact .inl rfl
    | some b => exact .inr (fun e => by injection e with e; have := (Own.lt h hA).1; omega))
/-- An item's block. -/
def boxS (B : Nat) : Spec := fun v w => ∃ b, v = .pointer (some ⟨b, 0, none⟩) ∧ OwnE 4 encItem 68 w B (some ⟨b, 0, none⟩) 1 [({ data := #[] }, { data := #[] }, { data := #[] }, 0)]
theorem boxS_stb {g B : Nat} (hg : g < B) : Stb g (boxS B) := fun _ _ _ h ⟨b, h1, h3⟩ => ⟨b, h1, keptI h3 h hg⟩
theorem boxS_new {B : Nat} {w : World} (h : B ≤ w.heap.size) : boxS B (.pointer (some ⟨w.heap.size, 0, none⟩)) (w.alloc (.cells #[.string { data := #[] }, .string { data := #[] }, .string { data := #[] }, .int .i64 0] 68)) :=
  ⟨w.heap.size, rfl, Own.more (Own.lit w 68 4 1 #[.string { data := #[] }, .string { data := #[] }, .string { data := #[] }, .int .i64 0] (cE 4 encItem [({ data := #[] }, { data := #[] }, { data := #[] }, 0)]) (by simp only [maxLen]; omega) rfl) h⟩
/-- One field set. -/
theorem setI {w : World} {B b : Nat} {p q : ElItem} (h : OwnE 4 encItem 68 w B (some ⟨b, 0, none⟩) 1 [p]) (j : Nat) (hj : j < 4) (v : Value) (hv : ∀ i, i < 4 → encItem q i = if i = j then v else encItem p i) (hB : B ≤ w.heap.size) :
    OwnE 4 encItem 68 (w.setCell ⟨b, j, none⟩ v) B (some ⟨b, 0, none⟩) 1 [q] ∧ Below B w (w.setCell ⟨b, j, none⟩ v) := by
  have s0 := Own.set h rfl (j := j) v
  refine ⟨Own.congr s0.1 (fun i hi => ?_), grown_below s0.2 (fun x hx => (Own.lt h hx).1) hB⟩
  have hi4 : i < 4 := by simpa using hi
  have e1 : cE 4 encItem [q] i = encItem q i := by
    rcases (by omega : i = 0 ∨ i = 1 ∨ i = 2 ∨ i = 3) with rfl | rfl | rfl | rfl <;> rfl
  have e2 : cE 4 encItem [p] i = encItem p i := by
    rcases (by omega : i = 0 ∨ i = 1 ∨ i = 2 ∨ i = 3) with rfl | rfl | rfl | rfl <;> rfl
  rw [e1, hv i hi4]
  split
  · rfl
  · exact e2
set_option maxHeartbeats 1600000 in
theorem l20Item_any (g m : Nat) (n : Int) (w : World) (h : Rdr w g m) (hm : m ≤ 900000) (hn : 0 ≤ n) (hn2 : n ≤ 1000000) :
    Calls Try.prog 48 #[.pointer (some ⟨g, 0, none⟩), .int .i64 n] w (DrewIt g (m + 12) w) := by
  have hlt := h.lt
  have oR : OwnE 4 encItem 68 (w.alloc (.cells #[.string { data := #[] }, .string { data := #[] }, .string { data := #[] }, .int .i64 0] 68)) w.heap.size (some ⟨w.heap.size, 0, none⟩) 1 [({ data := #[] }, { data := #[] }, { data := #[] }, 0)] := Own.lit w 68 4 1 #[.string { data := #[] }, .string { data := #[] }, .string { data := #[] }, .int .i64 0] (cE 4 encItem [({ data := #[] }, { data := #[] }, { data := #[] }, 0)]) (by simp only [maxLen]; omega) rfl
  have hgA := only_alloc w (some g) (World.grownBy.refl _ _) (.cells #[.string { data := #[] }, .string { data := #[] }, .string { data := #[] }, .int .i64 0] 68)
  have hrA := h.alloc (.cells #[.string { data := #[] }, .string { data := #[] }, .string { data := #[] }, .int .i64 0] 68)
  have hzA : w.heap.size < (w.alloc (.cells #[.string { data := #[] }, .string { data := #[] }, .string { data := #[] }, .int .i64 0] 68)).heap.size := by simp
  go_enter Try.func48, Try.ntmps48
  go_wp2_with fail
  generalize (w.alloc (.cells #[.string { data := #[] }, .string { data := #[] }, .string { data := #[] }, .int .i64 0] 68)) = wA at *
  refine wp_region_draws g 16 m [(tabS g 5 #[.string { data := #[107, 49] }, .string { data := #[107, 50] }, .string { data := #[107, 51] }, .string { data := #[107, 52] }, .string { data := #[107, 53] }]), (vS (fun v => v = .pointer (some ⟨g, 0, none⟩))), (vS (natP 5)), (ptrS g (strP 81)), (vS (strP 81)), (tabS g 3 #[.string { data := #[78, 101, 119, 115] }, .string { data := #[65, 32, 38, 32, 66] }, .string { data := #[116] }]), (vS (fun v => v = .pointer (some ⟨g, 0, none⟩))), (vS (natP 3)), (ptrS g (strP 81)), (vS (strP 81)), (vS (fun v => v = .pointer (some ⟨g, 0, none⟩))), (vS (strP 81)), (vS (fun v => v = .pointer (some ⟨g, 0, none⟩))), (vS (intP 0 1460969)), (vS (fun v => ∃ (t u s : ByteArray) (d : Int), v = .agg #[.string t, .string u, .string s, .int .i64 d] ∧ t.size ≤ 81 ∧ u.size ≤ 81 ∧ s.size ≤ 81)), (boxS (w.heap.size + 1))] [0, 0, 1, 0, 0, 0, 0, 1, 0, 0, 0, 2, 0, 4, 0, 0] (by kernel_rfl) (by kernel_rfl) (by rfl) (by rfl) (by rfl) ?_ hrA ?_ ?_
  · repeat (first | exact stb_nil g | refine stb_cons (by first | exact tabS_stb _ _ _ | exact ptrS_stb _ _ | exact vS_stb _ _ | exact boxS_stb (by omega)) ?_)
  · simp only [List.take_succ_cons, List.take_zero]
    refine looseSteps_cons (fun k a' w' hk0 hk1 hR hG hkp hd => ?_) ?_
    · have hgw := Rdr.lt hG
      unfold looseRun
      go_simp
      exact ⟨grown_alloc _ _ _, hG.alloc _, tabS_new hgw _ _⟩
    refine looseSteps_cons (fun k a' w' hk0 hk1 hR hG hkp hd => ?_) ?_
    · have hgw := Rdr.lt hG
      have k0 : a'.tmps.getD 0 undef = .pointer (some ⟨g, 0, none⟩) := hkp 0 (by rfl)
      unfold looseRun
      go_simp
      exact ⟨World.grownBy.refl _ _, hG, rfl⟩
    refine looseSteps_cons (fun k a' w' hk0 hk1 hR hG hkp hd => ?_) ?_
    · have hgw := Rdr.lt hG
      have e7 : a'.tmps.getD 7 undef = .pointer (some ⟨g, 0, none⟩) := hd.1 rfl
      unfold looseRun
      go_simp
      refine ⟨rfl, (pick_any g k _ _ hG (by simp at hk1; omega)).mono ?_⟩
      rintro e w2 ⟨z, rfl, hz0, hz1, hr2, hg2⟩
      exact ⟨_, rfl, hg2, hr2, z.toNat, by rw [Int.toNat_of_nonneg hz0], by omega⟩
    refine looseSteps_cons (fun k a' w' hk0 hk1 hR hG hkp hd => ?_) ?_
    · have hgw := Rdr.lt hG
      obtain ⟨b, e6, hb1, hb2, hbc⟩ := hd.1 rfl
      obtain ⟨z, e8, hz⟩ := hd.2.1 rfl
      have e6' : a'.tmps.getD 6 undef = _ := e6
      have e6q := e6'
      rw [Array.getD_eq_getD_getElem?] at e6q
      clear e6
      have e8' : a'.tmps.getD 8 undef = _ := e8
      have e8q := e8'
      rw [Array.getD_eq_getD_getElem?] at e8q
      clear e8
      have hz2 : (z : Int) < 5 := by omega
      have hel : ∃ t : ByteArray, t.size ≤ 81 ∧ (#[.string { data := #[107, 49] }, .string { data := #[107, 50] }, .string { data := #[107, 51] }, .string { data := #[107, 52] }, .string { data := #[107, 53] }] : Array Value)[z]? = some (.string t) := by
        match z, hz with
        | 0, _ => exact ⟨{ data := #[107, 49] }, by decide, rfl⟩
        | 1, _ => exact ⟨{ data := #[107, 50] }, by decide, rfl⟩
        | 2, _ => exact ⟨{ data := #[107, 51] }, by decide, rfl⟩
        | 3, _ => exact ⟨{ data := #[107, 52] }, by decide, rfl⟩
        | 4, _ => exact ⟨{ data := #[107, 53] }, by decide, rfl⟩
      obtain ⟨t, ht, het⟩ := hel
      unfold looseRun
      go_simp
      exact ⟨World.grownBy.refl _ _, hG, b, z, _, rfl, hb1, hb2, (hbc z).trans het, t, rfl, ht⟩
    refine looseSteps_cons (fun k a' w' hk0 hk1 hR hG hkp hd => ?_) ?_
    · have hgw := Rdr.lt hG
      obtain ⟨b, i, x, e1, hb1, hb2, hc, t, rfl, ht⟩ := hd.1 rfl
      have e2 : a'.tmps.getD 9 undef = _ := e1
      clear e1
      unfold looseRun
      go_simp
      exact ⟨World.grownBy.refl _ _, hG, t, rfl, ht⟩
    refine looseSteps_cons (fun k a' w' hk0 hk1 hR hG hkp hd => ?_) ?_
    · have hgw := Rdr.lt hG
      unfold looseRun
      go_simp
      exact ⟨grown_alloc _ _ _, hG.alloc _, tabS_new hgw _ _⟩
    refine looseSteps_cons (fun k a' w' hk0 hk1 hR hG hkp hd => ?_) ?_
    · have hgw := Rdr.lt hG
      have k0 : a'.tmps.getD 0 undef = .pointer (some ⟨g, 0, none⟩) := hkp 0 (by rfl)
      unfold looseRun
      go_simp
      exact ⟨World.grownBy.refl _ _, hG, rfl⟩
    refine looseSteps_cons (fun k a' w' hk0 hk1 hR hG hkp hd => ?_) ?_
    · have hgw := Rdr.lt hG
      have e12 : a'.tmps.getD 12 undef = .pointer (some ⟨g, 0, none⟩) := hd.1 rfl
      unfold looseRun
      go_simp
      refine ⟨rfl, (pick_any g k _ _ hG (by simp at hk1; omega)).mono ?_⟩
      rintro e w2 ⟨z, rfl, hz0, hz1, hr2, hg2⟩
      exact ⟨_, rfl, hg2, hr2, z.toNat, by rw [Int.toNat_of_nonneg hz0], by omega⟩
    refine looseSteps_cons (fun k a' w' hk0 hk1 hR hG hkp hd => ?_) ?_
    · have hgw := Rdr.lt hG
      obtain ⟨b, e11, hb1, hb2, hbc⟩ := hd.1 rfl
      obtain ⟨z, e13, hz⟩ := hd.2.1 rfl
      have e11' : a'.tmps.getD 11 undef = _ := e11
      have e11q := e11'
      rw [Array.getD_eq_getD_getElem?] at e11q
      clear e11
      have e13' : a'.tmps.getD 13 undef = _ := e13
      have e13q := e13'
      rw [Array.getD_eq_getD_getElem?] at e13q
      clear e13
      have hz2 : (z : Int) < 3 := by omega
      have hel : ∃ t : ByteArray, t.size ≤ 81 ∧ (#[.string { data := #[78, 101, 119, 115] }, .string { data := #[65, 32, 38, 32, 66] }, .string { data := #[116] }] : Array Value)[z]? = some (.string t) := by
        match z, hz with
        | 0, _ => exact ⟨{ data := #[78, 101, 119, 115] }, by decide, rfl⟩
        | 1, _ => exact ⟨{ data := #[65, 32, 38, 32, 66] }, by decide, rfl⟩
        | 2, _ => exact ⟨{ data := #[116] }, by decide, rfl⟩
      obtain ⟨t, ht, het⟩ := hel
      unfold looseRun
      go_simp
      exact ⟨World.grownBy.refl _ _, hG, b, z, _, rfl, hb1, hb2, (hbc z).trans het, t, rfl, ht⟩
    refine looseSteps_cons (fun k a' w' hk0 hk1 hR hG hkp hd => ?_) ?_
    · have hgw := Rdr.lt hG
      obtain ⟨b, i, x, e1, hb1, hb2, hc, t, rfl, ht⟩ := hd.1 rfl
      have e2 : a'.tmps.getD 14 undef = _ := e1
      clear e1
      unfold looseRun
      go_simp
      exact ⟨World.grownBy.refl _ _, hG, t, rfl, ht⟩
    refine looseSteps_cons (fun k a' w' hk0 hk1 hR hG hkp hd => ?_) ?_
    · have hgw := Rdr.lt hG
      have k0 : a'.tmps.getD 0 undef = .pointer (some ⟨g, 0, none⟩) := hkp 0 (by rfl)
      unfold looseRun
      go_simp
      exact ⟨World.grownBy.refl _ _, hG, rfl⟩
    refine looseSteps_cons (fun k a' w' hk0 hk1 hR hG hkp hd => ?_) ?_
    · have hgw := Rdr.lt hG
      have e16 : a'.tmps.getD 16 undef = .pointer (some ⟨g, 0, none⟩) := hd.1 rfl
      unfold looseRun
      go_simp
      refine ⟨rfl, (l20Text_any g k _ _ hG (by simp at hk1; omega) (by omega) (by omega)).mono ?_⟩
      rintro e w2 ⟨s, rfl, hs, hr2, hg2⟩
      exact ⟨_, rfl, hg2, hr2, s, rfl, hs⟩
    refine looseSteps_cons (fun k a' w' hk0 hk1 hR hG hkp hd => ?_) ?_
    · have hgw := Rdr.lt hG
      have k0 : a'.tmps.getD 0 undef = .pointer (some ⟨g, 0, none⟩) := hkp 0 (by rfl)
      unfold looseRun
      go_simp
      exact ⟨World.grownBy.refl _ _, hG, rfl⟩
    refine looseSteps_cons (fun k a' w' hk0 hk1 hR hG hkp hd => ?_) ?_
    · have hgw := Rdr.lt hG
      have e18 : a'.tmps.getD 18 undef = .pointer (some ⟨g, 0, none⟩) := hd.1 rfl
      unfold looseRun
      go_simp
      refine ⟨rfl, (l20Day_any g k _ hG (by simp at hk1; omega)).mono ?_⟩
      rintro e w2 ⟨d, rfl, hd0, hd1, hr2, hg2⟩
      exact ⟨_, rfl, hg2, hr2, d, rfl, hd0, hd1⟩
    refine looseSteps_cons (fun k a' w' hk0 hk1 hR hG hkp hd => ?_) ?_
    · have hgw := Rdr.lt hG
      obtain ⟨t, e1, ht⟩ := hd.1 rfl
      obtain ⟨u, e2, hu⟩ := hd.2.1 rfl
      obtain ⟨s, e3, hs⟩ := hd.2.2.1 rfl
      obtain ⟨d, e4, _, _⟩ := hd.2.2.2.1 rfl
      have e1' : a'.tmps.getD 10 undef = _ := e1
      have e1q := e1'
      rw [Array.getD_eq_getD_getElem?] at e1q
      clear e1
      have e2' : a'.tmps.getD 15 undef = _ := e2
      have e2q := e2'
      rw [Array.getD_eq_getD_getElem?] at e2q
      clear e2
      have e3' : a'.tmps.getD 17 undef = _ := e3
      have e3q := e3'
      rw [Array.getD_eq_getD_getElem?] at e3q
      clear e3
      have e4' : a'.tmps.getD 19 undef = _ := e4
      have e4q := e4'
      rw [Array.getD_eq_getD_getElem?] at e4q
      clear e4
      unfold looseRun
      go_simp
      first | exact ⟨World.grownBy.refl _ _, hG, t, u, s, d, rfl, ht, hu, hs⟩ | exact ⟨World.grownBy.refl _ _, hG, t, u, s, ⟨d, rfl⟩, ht, hu, hs⟩
    refine looseSteps_cons (fun k a' w' hk0 hk1 hR hG hkp hd => ?_) ?_
    · have hgw := Rdr.lt hG
      have hR0 : World.grownBy wA.drew w' (some g) := hR
      have hsz : wA.heap.size ≤ w'.heap.size := hR0.size
      unfold looseRun
      go_simp
      exact ⟨grown_alloc _ _ _, hG.alloc _, boxS_new (by omega)⟩
    exact looseSteps_nil
  · intro w3 hg3 hr3
    simp only [List.take_succ_cons, List.take_zero, List.drop_succ_cons, List.drop_zero]
    refine looseAll_cons fun v6 h6 => ?_
    refine looseAll_cons fun v7 h7 => ?_
    refine looseAll_cons fun v8 h8 => ?_
    refine looseAll_cons fun v9 h9 => ?_
    refine looseAll_cons fun v10 h10 => ?_
    refine looseAll_cons fun v11 h11 => ?_
    refine looseAll_cons fun v12 h12 => ?_
    refine looseAll_cons fun v13 h13 => ?_
    refine looseAll_cons fun v14 h14 => ?_
    refine looseAll_cons fun v15 h15 => ?_
    refine looseAll_cons fun v16 h16 => ?_
    refine looseAll_cons fun v17 h17 => ?_
    refine looseAll_cons fun v18 h18 => ?_
    refine looseAll_cons fun v19 h19 => ?_
    refine looseAll_cons fun v20 h20 => ?_
    refine looseAll_cons fun v5 h5 => ?_
    refine looseAll_nil ?_
    obtain ⟨t, u, s, d, rfl, ht, hu, hs⟩ := h20
    obtain ⟨b5, rfl, o5⟩ := h5
    simp only [Act.put, List.setIfInBounds_toArray, List.set_cons_zero, List.set_cons_succ]
    have oR3 := keptI oR hg3 hlt
    have hw3 := hgA.trans hg3
    have hr3 : Rdr w3 g (m + 8) := hr3
    clear h6 h7 h8 h9 h10 h11 h12 h13 h14 h15 h16 h17 h18 h19
    have hs3 := hw3.size
    have o5_0 : OwnE 4 encItem 68 w3 (w.heap.size + 1) (some ⟨b5, 0, none⟩) 1 [({ data := #[] }, { data := #[] }, { data := #[] }, 0)] := o5
    have hB0 : w.heap.size + 1 ≤ w3.heap.size := by have := (Own.lt o5 (b := b5) rfl); omega
    obtain ⟨o5_1, hb_0⟩ := setI o5_0 (q := (t, { data := #[] }, { data := #[] }, 0)) 0 (by omega) (Value.string t) (fun i hi => by rcases (by omega : i = 0 ∨ i = 1 ∨ i = 2 ∨ i = 3) with rfl | rfl | rfl | rfl <;> rfl) (by first | exact hB0 | (simp only [World.size_setCell]; exact hB0))
    obtain ⟨o5_2, hb_1⟩ := setI o5_1 (q := (t, u, { data := #[] }, 0)) 1 (by omega) (Value.string u) (fun i hi => by rcases (by omega : i = 0 ∨ i = 1 ∨ i = 2 ∨ i = 3) with rfl | rfl | rfl | rfl <;> rfl) (by first | exact hB0 | (simp only [World.size_setCell]; exact hB0))
    obtain ⟨o5_3, hb_2⟩ := setI o5_2 (q := (t, u, s, 0)) 2 (by omega) (Value.string s) (fun i hi => by rcases (by omega : i = 0 ∨ i = 1 ∨ i = 2 ∨ i = 3) with rfl | rfl | rfl | rfl <;> rfl) (by first | exact hB0 | (simp only [World.size_setCell]; exact hB0))
    obtain ⟨o5_4, hb_3⟩ := setI o5_3 (q := (t, u, s, d)) 3 (by omega) (Value.int .i64 d) (fun i hi => by rcases (by omega : i = 0 ∨ i = 1 ∨ i = 2 ∨ i = 3) with rfl | rfl | rfl | rfl <;> rfl) (by first | exact hB0 | (simp only [World.size_setCell]; exact hB0))
    have z0 : w3.cell? ⟨b5, 0, none⟩ = some (Value.string { data := #[] }) := o5.cell rfl (j := 0) (by simp)
    have zf0 : w3.frozen? ⟨b5, 0, none⟩ = false := o5.frozen rfl 0
    have z1 : w3.cell? ⟨b5, 1, none⟩ = some (Value.string { data := #[] }) := o5.cell rfl (j := 1) (by simp)
    have zf1 : w3.frozen? ⟨b5, 1, none⟩ = false := o5.frozen rfl 1
    have z2 : w3.cell? ⟨b5, 2, none⟩ = some (Value.string { data := #[] }) := o5.cell rfl (j := 2) (by simp)
    have zf2 : w3.frozen? ⟨b5, 2, none⟩ = false := o5.frozen rfl 2
    have z3 : w3.cell? ⟨b5, 3, none⟩ = some (Value.int .i64 0) := o5.cell rfl (j := 3) (by simp)
    have zf3 : w3.frozen? ⟨b5, 3, none⟩ = false := o5.frozen rfl 3
    have hb4 := ((hb_0.trans hb_1).trans hb_2).trans hb_3
    have oR4 := Own.belowB oR3 hb4 (fun b hb => by simp [blk] at hb; omega)
    have hr4 := hr3.below hb4 (by omega)
    have hw4 := only_below hw3 hb4 (by omega)
    have hs4 := hb4.size
    clear hb_0 hb_1 hb_2 hb_3 hb4 o5_0 o5_1 o5_2 o5_3 oR3 hr3 hw3 o5
    go_wp2_with fail
    generalize ((((w3.setCell ⟨b5, 0, none⟩ (Value.string t)).setCell ⟨b5, 1, none⟩ (Value.string u)).setCell ⟨b5, 2, none⟩ (Value.string s)).setCell ⟨b5, 3, none⟩ (Value.int .i64 d)) = w4 at *
    refine (odd_any g _ _ _ hr4 (by omega) hn hn2).mono ?_
    rintro e w5 ⟨q, rfl, hr5, hg5⟩
    have o55 := keptI o5_4 hg5 (by omega)
    have oR5 := keptI oR4 hg5 hlt
    have hw5 := hw4.trans hg5
    have hs5 := hg5.size
    clear o5_4 oR4 hr4 hw4 hg5
    cases q
    · skip
      have k0 : w5.cell? ⟨b5, 0, none⟩ = some (Value.string t) := o55.cell rfl (j := 0) (by simp)
      have kf0 : w5.frozen? ⟨b5, 0, none⟩ = false := o55.frozen rfl 0
      have k1 : w5.cell? ⟨b5, 1, none⟩ = some (Value.string u) := o55.cell rfl (j := 1) (by simp)
      have kf1 : w5.frozen? ⟨b5, 1, none⟩ = false := o55.frozen rfl 1
      have k2 : w5.cell? ⟨b5, 2, none⟩ = some (Value.string s) := o55.cell rfl (j := 2) (by simp)
      have kf2 : w5.frozen? ⟨b5, 2, none⟩ = false := o55.frozen rfl 2
      have k3 : w5.cell? ⟨b5, 3, none⟩ = some (Value.int .i64 d) := o55.cell rfl (j := 3) (by simp)
      have kf3 : w5.frozen? ⟨b5, 3, none⟩ = false := o55.frozen rfl 3
      have r0 : w5.cell? ⟨w.heap.size, 0, none⟩ = some (Value.string { data := #[] }) := oR5.cell rfl (j := 0) (by simp)
      have rf0 : w5.frozen? ⟨w.heap.size, 0, none⟩ = false := oR5.frozen rfl 0
      have r1 : w5.cell? ⟨w.heap.size, 1, none⟩ = some (Value.string { data := #[] }) := oR5.cell rfl (j := 1) (by simp)
      have rf1 : w5.frozen? ⟨w.heap.size, 1, none⟩ = false := oR5.frozen rfl 1
      have r2 : w5.cell? ⟨w.heap.size, 2, none⟩ = some (Value.string { data := #[] }) := oR5.cell rfl (j := 2) (by simp)
      have rf2 : w5.frozen? ⟨w.heap.size, 2, none⟩ = false := oR5.frozen rfl 2
      have r3 : w5.cell? ⟨w.heap.size, 3, none⟩ = some (Value.int .i64 0) := oR5.cell rfl (j := 3) (by simp)
      have rf3 : w5.frozen? ⟨w.heap.size, 3, none⟩ = false := oR5.frozen rfl 3
      have hbF : Below w.heap.size w5 ((((w5.setCell ⟨w.heap.size, 0, none⟩ (Value.string t)).setCell ⟨w.heap.size, 1, none⟩ (Value.string u)).setCell ⟨w.heap.size, 2, none⟩ (Value.string s)).setCell ⟨w.heap.size, 3, none⟩ (Value.int .i64 d)) := ((((Below.refl w.heap.size w5).setCell (Nat.le_refl _) _).setCell (Nat.le_refl _) _).setCell (Nat.le_refl _) _).setCell (Nat.le_refl _) _
      have hgF := Lib.hid (only_below hw5 hbF (Nat.le_refl _))
      have hrF := Lib.hid (hr5.below hbF hlt)
      clear hbF
      go_wp2_with fail
      exact bodyPost_ret (v := .agg #[.string t, .string u, .string s, .int .i64 d]) (by simp [results, Try.results48, go_sem, r0, r1, r2, r3, rf0, rf1, rf2, rf3]) rfl ⟨(t, u, s, d), rfl, ht, hu, hs, hrF.out.more (by omega), hgF.out⟩
    · go_wp2_with fail
      refine (pick_any g _ _ _ hr5 (by omega)).mono ?_
      rintro e w6 ⟨z, rfl, hz0, hz1, hr6, hg6⟩
      have o56 := keptI o55 hg6 (by omega)
      have oR6 := keptI oR5 hg6 hlt
      have hw6 := hw5.trans hg6
      have hs6 := hg6.size
      clear o55 oR5 hr5 hw5 hg6
      rcases (by omega : z = 0 ∨ z = 1 ∨ z = 2 ∨ z = 3) with rfl | rfl | rfl | rfl
      · go_wp2_with fail
        refine (l20Word_any g _ _ _ hr6 (by omega) (by omega) (by omega)).mono ?_
        rintro e w7 ⟨x, rfl, hx, hr7, hg7⟩
        have o57 := keptI o56 hg7 (by omega)
        have oR7 := keptI oR6 hg7 hlt
        have hw7 := hw6.trans hg7
        clear o56 oR6 hr6 hw6
        have y0 : w7.cell? ⟨b5, 0, none⟩ = some (Value.string t) := o57.cell rfl (j := 0) (by simp)
        have yf0 : w7.frozen? ⟨b5, 0, none⟩ = false := o57.frozen rfl 0
        have y1 : w7.cell? ⟨b5, 1, none⟩ = some (Value.string u) := o57.cell rfl (j := 1) (by simp)
        have yf1 : w7.frozen? ⟨b5, 1, none⟩ = false := o57.frozen rfl 1
        have y2 : w7.cell? ⟨b5, 2, none⟩ = some (Value.string s) := o57.cell rfl (j := 2) (by simp)
        have yf2 : w7.frozen? ⟨b5, 2, none⟩ = false := o57.frozen rfl 2
        have y3 : w7.cell? ⟨b5, 3, none⟩ = some (Value.int .i64 d) := o57.cell rfl (j := 3) (by simp)
        have yf3 : w7.frozen? ⟨b5, 3, none⟩ = false := o57.frozen rfl 3
        have hs7 := hg7.size
        have hB7 : w.heap.size + 1 ≤ w7.heap.size := by have := (Own.lt o57 (b := b5) rfl); omega
        obtain ⟨o58, hb8⟩ := setI o57 (q := (x, u, s, d)) 0 (by omega) (Value.string x) (fun i hi => by rcases (by omega : i = 0 ∨ i = 1 ∨ i = 2 ∨ i = 3) with rfl | rfl | rfl | rfl <;> rfl) hB7
        have oR8 := Own.belowB oR7 hb8 (fun b hb => by simp [blk] at hb; omega)
        have hr8 := hr7.below hb8 (by omega)
        have hw8 := only_below hw7 hb8 (by omega)
        clear hb8 o57 oR7 hr7 hw7 hg7
        have k0 : (w7.setCell ⟨b5, 0, none⟩ (Value.string x)).cell? ⟨b5, 0, none⟩ = some (Value.string x) := o58.cell rfl (j := 0) (by simp)
        have kf0 : (w7.setCell ⟨b5, 0, none⟩ (Value.string x)).frozen? ⟨b5, 0, none⟩ = false := o58.frozen rfl 0
        have k1 : (w7.setCell ⟨b5, 0, none⟩ (Value.string x)).cell? ⟨b5, 1, none⟩ = some (Value.string u) := o58.cell rfl (j := 1) (by simp)
        have kf1 : (w7.setCell ⟨b5, 0, none⟩ (Value.string x)).frozen? ⟨b5, 1, none⟩ = false := o58.frozen rfl 1
        have k2 : (w7.setCell ⟨b5, 0, none⟩ (Value.string x)).cell? ⟨b5, 2, none⟩ = some (Value.string s) := o58.cell rfl (j := 2) (by simp)
        have kf2 : (w7.setCell ⟨b5, 0, none⟩ (Value.string x)).frozen? ⟨b5, 2, none⟩ = false := o58.frozen rfl 2
        have k3 : (w7.setCell ⟨b5, 0, none⟩ (Value.string x)).cell? ⟨b5, 3, none⟩ = some (Value.int .i64 d) := o58.cell rfl (j := 3) (by simp)
        have kf3 : (w7.setCell ⟨b5, 0, none⟩ (Value.string x)).frozen? ⟨b5, 3, none⟩ = false := o58.frozen rfl 3
        have r0 : (w7.setCell ⟨b5, 0, none⟩ (Value.string x)).cell? ⟨w.heap.size, 0, none⟩ = some (Value.string { data := #[] }) := oR8.cell rfl (j := 0) (by simp)
        have rf0 : (w7.setCell ⟨b5, 0, none⟩ (Value.string x)).frozen? ⟨w.heap.size, 0, none⟩ = false := oR8.frozen rfl 0
        have r1 : (w7.setCell ⟨b5, 0, none⟩ (Value.string x)).cell? ⟨w.heap.size, 1, none⟩ = some (Value.string { data := #[] }) := oR8.cell rfl (j := 1) (by simp)
        have rf1 : (w7.setCell ⟨b5, 0, none⟩ (Value.string x)).frozen? ⟨w.heap.size, 1, none⟩ = false := oR8.frozen rfl 1
        have r2 : (w7.setCell ⟨b5, 0, none⟩ (Value.string x)).cell? ⟨w.heap.size, 2, none⟩ = some (Value.string { data := #[] }) := oR8.cell rfl (j := 2) (by simp)
        have rf2 : (w7.setCell ⟨b5, 0, none⟩ (Value.string x)).frozen? ⟨w.heap.size, 2, none⟩ = false := oR8.frozen rfl 2
        have r3 : (w7.setCell ⟨b5, 0, none⟩ (Value.string x)).cell? ⟨w.heap.size, 3, none⟩ = some (Value.int .i64 0) := oR8.cell rfl (j := 3) (by simp)
        have rf3 : (w7.setCell ⟨b5, 0, none⟩ (Value.string x)).frozen? ⟨w.heap.size, 3, none⟩ = false := oR8.frozen rfl 3
        have hbF : Below w.heap.size (w7.setCell ⟨b5, 0, none⟩ (Value.string x)) (((((w7.setCell ⟨b5, 0, none⟩ (Value.string x)).setCell ⟨w.heap.size, 0, none⟩ (Value.string x)).setCell ⟨w.heap.size, 1, none⟩ (Value.string u)).setCell ⟨w.heap.size, 2, none⟩ (Value.string s)).setCell ⟨w.heap.size, 3, none⟩ (Value.int .i64 d)) := ((((Below.refl w.heap.size (w7.setCell ⟨b5, 0, none⟩ (Value.string x))).setCell (Nat.le_refl _) _).setCell (Nat.le_refl _) _).setCell (Nat.le_refl _) _).setCell (Nat.le_refl _) _
        have hgF := Lib.hid (only_below hw8 hbF (Nat.le_refl _))
        have hrF := Lib.hid (hr8.below hbF hlt)
        clear hbF
        go_wp2_with fail
        exact bodyPost_ret (v := .agg #[.string x, .string u, .string s, .int .i64 d]) (by simp [results, Try.results48, go_sem, r0, r1, r2, r3, rf0, rf1, rf2, rf3]) rfl ⟨(x, u, s, d), rfl, (show x.size ≤ 81 by omega), hu, hs, hrF.out.more (by omega), hgF.out⟩
      · have hrT := hr6.alloc (.cells #[.string { data := #[] }, .string { data := #[10] }] 9)
        go_wp2_with fail
        refine (pick_any g _ _ _ hrT (by omega)).mono ?_
        rintro e w7 ⟨y, rfl, hy0, hy1, hr7, hg7⟩
        obtain ⟨y, rfl⟩ := Int.eq_ofNat_of_zero_le hy0
        have hy : y < 2 := by omega
        have htab := tab_cell hg7 (by omega)
        obtain ⟨x, hx, hcx⟩ : ∃ x : ByteArray, x.size ≤ 81 ∧ w7.cell? ⟨w6.heap.size, y, none⟩ = some (.string x) := by
          rw [htab y]
          match y, hy with
          | 0, _ => exact ⟨{ data := #[] }, by decide, rfl⟩
          | 1, _ => exact ⟨{ data := #[10] }, by decide, rfl⟩
        clear htab
        have o57 := keptI (Own.below o56 ((Below.refl _ _).alloc (Nat.le_refl _) (.cells #[.string { data := #[] }, .string { data := #[10] }] 9))) hg7 (by omega)
        have oR7 := keptI (Own.below oR6 ((Below.refl _ _).alloc (Nat.le_refl _) (.cells #[.string { data := #[] }, .string { data := #[10] }] 9))) hg7 hlt
        have hw7 := (only_alloc w (some g) hw6 (.cells #[.string { data := #[] }, .string { data := #[10] }] 9)).trans hg7
        clear o56 oR6 hr6 hw6 hrT
        have y0 : w7.cell? ⟨b5, 0, none⟩ = some (Value.string t) := o57.cell rfl (j := 0) (by simp)
        have yf0 : w7.frozen? ⟨b5, 0, none⟩ = false := o57.frozen rfl 0
        have y1 : w7.cell? ⟨b5, 1, none⟩ = some (Value.string u) := o57.cell rfl (j := 1) (by simp)
        have yf1 : w7.frozen? ⟨b5, 1, none⟩ = false := o57.frozen rfl 1
        have y2 : w7.cell? ⟨b5, 2, none⟩ = some (Value.string s) := o57.cell rfl (j := 2) (by simp)
        have yf2 : w7.frozen? ⟨b5, 2, none⟩ = false := o57.frozen rfl 2
        have y3 : w7.cell? ⟨b5, 3, none⟩ = some (Value.int .i64 d) := o57.cell rfl (j := 3) (by simp)
        have yf3 : w7.frozen? ⟨b5, 3, none⟩ = false := o57.frozen rfl 3
        have hs7 := hg7.size
        have hB7 : w.heap.size + 1 ≤ w7.heap.size := by have := (Own.lt o57 (b := b5) rfl); omega
        obtain ⟨o58, hb8⟩ := setI o57 (q := (t, x, s, d)) 1 (by omega) (Value.string x) (fun i hi => by rcases (by omega : i = 0 ∨ i = 1 ∨ i = 2 ∨ i = 3) with rfl | rfl | rfl | rfl <;> rfl) hB7
        have oR8 := Own.belowB oR7 hb8 (fun b hb => by simp [blk] at hb; omega)
        have hr8 := hr7.below hb8 (by omega)
        have hw8 := only_below hw7 hb8 (by omega)
        clear hb8 o57 oR7 hr7 hw7 hg7
        have k0 : (w7.setCell ⟨b5, 1, none⟩ (Value.string x)).cell? ⟨b5, 0, none⟩ = some (Value.string t) := o58.cell rfl (j := 0) (by simp)
        have kf0 : (w7.setCell ⟨b5, 1, none⟩ (Value.string x)).frozen? ⟨b5, 0, none⟩ = false := o58.frozen rfl 0
        have k1 : (w7.setCell ⟨b5, 1, none⟩ (Value.string x)).cell? ⟨b5, 1, none⟩ = some (Value.string x) := o58.cell rfl (j := 1) (by simp)
        have kf1 : (w7.setCell ⟨b5, 1, none⟩ (Value.string x)).frozen? ⟨b5, 1, none⟩ = false := o58.frozen rfl 1
        have k2 : (w7.setCell ⟨b5, 1, none⟩ (Value.string x)).cell? ⟨b5, 2, none⟩ = some (Value.string s) := o58.cell rfl (j := 2) (by simp)
        have kf2 : (w7.setCell ⟨b5, 1, none⟩ (Value.string x)).frozen? ⟨b5, 2, none⟩ = false := o58.frozen rfl 2
        have k3 : (w7.setCell ⟨b5, 1, none⟩ (Value.string x)).cell? ⟨b5, 3, none⟩ = some (Value.int .i64 d) := o58.cell rfl (j := 3) (by simp)
        have kf3 : (w7.setCell ⟨b5, 1, none⟩ (Value.string x)).frozen? ⟨b5, 3, none⟩ = false := o58.frozen rfl 3
        have r0 : (w7.setCell ⟨b5, 1, none⟩ (Value.string x)).cell? ⟨w.heap.size, 0, none⟩ = some (Value.string { data := #[] }) := oR8.cell rfl (j := 0) (by simp)
        have rf0 : (w7.setCell ⟨b5, 1, none⟩ (Value.string x)).frozen? ⟨w.heap.size, 0, none⟩ = false := oR8.frozen rfl 0
        have r1 : (w7.setCell ⟨b5, 1, none⟩ (Value.string x)).cell? ⟨w.heap.size, 1, none⟩ = some (Value.string { data := #[] }) := oR8.cell rfl (j := 1) (by simp)
        have rf1 : (w7.setCell ⟨b5, 1, none⟩ (Value.string x)).frozen? ⟨w.heap.size, 1, none⟩ = false := oR8.frozen rfl 1
        have r2 : (w7.setCell ⟨b5, 1, none⟩ (Value.string x)).cell? ⟨w.heap.size, 2, none⟩ = some (Value.string { data := #[] }) := oR8.cell rfl (j := 2) (by simp)
        have rf2 : (w7.setCell ⟨b5, 1, none⟩ (Value.string x)).frozen? ⟨w.heap.size, 2, none⟩ = false := oR8.frozen rfl 2
        have r3 : (w7.setCell ⟨b5, 1, none⟩ (Value.string x)).cell? ⟨w.heap.size, 3, none⟩ = some (Value.int .i64 0) := oR8.cell rfl (j := 3) (by simp)
        have rf3 : (w7.setCell ⟨b5, 1, none⟩ (Value.string x)).frozen? ⟨w.heap.size, 3, none⟩ = false := oR8.frozen rfl 3
        have hbF : Below w.heap.size (w7.setCell ⟨b5, 1, none⟩ (Value.string x)) (((((w7.setCell ⟨b5, 1, none⟩ (Value.string x)).setCell ⟨w.heap.size, 0, none⟩ (Value.string t)).setCell ⟨w.heap.size, 1, none⟩ (Value.string x)).setCell ⟨w.heap.size, 2, none⟩ (Value.string s)).setCell ⟨w.heap.size, 3, none⟩ (Value.int .i64 d)) := ((((Below.refl w.heap.size (w7.setCell ⟨b5, 1, none⟩ (Value.string x))).setCell (Nat.le_refl _) _).setCell (Nat.le_refl _) _).setCell (Nat.le_refl _) _).setCell (Nat.le_refl _) _
        have hgF := Lib.hid (only_below hw8 hbF (Nat.le_refl _))
        have hrF := Lib.hid (hr8.below hbF hlt)
        clear hbF
        go_wp2_with fail
        exact bodyPost_ret (v := .agg #[.string t, .string x, .string s, .int .i64 d]) (by simp [results, Try.results48, go_sem, r0, r1, r2, r3, rf0, rf1, rf2, rf3]) rfl ⟨(t, x, s, d), rfl, ht, hx, hs, hrF.out.more (by omega), hgF.out⟩
      · go_wp2_with fail
        refine (l20Text_any g _ _ _ hr6 (by omega) (by omega) (by omega)).mono ?_
        rintro e w7 ⟨x, rfl, hx, hr7, hg7⟩
        have o57 := keptI o56 hg7 (by omega)
        have oR7 := keptI oR6 hg7 hlt
        have hw7 := hw6.trans hg7
        clear o56 oR6 hr6 hw6
        have y0 : w7.cell? ⟨b5, 0, none⟩ = some (Value.string t) := o57.cell rfl (j := 0) (by simp)
        have yf0 : w7.frozen? ⟨b5, 0, none⟩ = false := o57.frozen rfl 0
        have y1 : w7.cell? ⟨b5, 1, none⟩ = some (Value.string u) := o57.cell rfl (j := 1) (by simp)
        have yf1 : w7.frozen? ⟨b5, 1, none⟩ = false := o57.frozen rfl 1
        have y2 : w7.cell? ⟨b5, 2, none⟩ = some (Value.string s) := o57.cell rfl (j := 2) (by simp)
        have yf2 : w7.frozen? ⟨b5, 2, none⟩ = false := o57.frozen rfl 2
        have y3 : w7.cell? ⟨b5, 3, none⟩ = some (Value.int .i64 d) := o57.cell rfl (j := 3) (by simp)
        have yf3 : w7.frozen? ⟨b5, 3, none⟩ = false := o57.frozen rfl 3
        have hs7 := hg7.size
        have hB7 : w.heap.size + 1 ≤ w7.heap.size := by have := (Own.lt o57 (b := b5) rfl); omega
        obtain ⟨o58, hb8⟩ := setI o57 (q := (t, u, x, d)) 2 (by omega) (Value.string x) (fun i hi => by rcases (by omega : i = 0 ∨ i = 1 ∨ i = 2 ∨ i = 3) with rfl | rfl | rfl | rfl <;> rfl) hB7
        have oR8 := Own.belowB oR7 hb8 (fun b hb => by simp [blk] at hb; omega)
        have hr8 := hr7.below hb8 (by omega)
        have hw8 := only_below hw7 hb8 (by omega)
        clear hb8 o57 oR7 hr7 hw7 hg7
        have k0 : (w7.setCell ⟨b5, 2, none⟩ (Value.string x)).cell? ⟨b5, 0, none⟩ = some (Value.string t) := o58.cell rfl (j := 0) (by simp)
        have kf0 : (w7.setCell ⟨b5, 2, none⟩ (Value.string x)).frozen? ⟨b5, 0, none⟩ = false := o58.frozen rfl 0
        have k1 : (w7.setCell ⟨b5, 2, none⟩ (Value.string x)).cell? ⟨b5, 1, none⟩ = some (Value.string u) := o58.cell rfl (j := 1) (by simp)
        have kf1 : (w7.setCell ⟨b5, 2, none⟩ (Value.string x)).frozen? ⟨b5, 1, none⟩ = false := o58.frozen rfl 1
        have k2 : (w7.setCell ⟨b5, 2, none⟩ (Value.string x)).cell? ⟨b5, 2, none⟩ = some (Value.string x) := o58.cell rfl (j := 2) (by simp)
        have kf2 : (w7.setCell ⟨b5, 2, none⟩ (Value.string x)).frozen? ⟨b5, 2, none⟩ = false := o58.frozen rfl 2
        have k3 : (w7.setCell ⟨b5, 2, none⟩ (Value.string x)).cell? ⟨b5, 3, none⟩ = some (Value.int .i64 d) := o58.cell rfl (j := 3) (by simp)
        have kf3 : (w7.setCell ⟨b5, 2, none⟩ (Value.string x)).frozen? ⟨b5, 3, none⟩ = false := o58.frozen rfl 3
        have r0 : (w7.setCell ⟨b5, 2, none⟩ (Value.string x)).cell? ⟨w.heap.size, 0, none⟩ = some (Value.string { data := #[] }) := oR8.cell rfl (j := 0) (by simp)
        have rf0 : (w7.setCell ⟨b5, 2, none⟩ (Value.string x)).frozen? ⟨w.heap.size, 0, none⟩ = false := oR8.frozen rfl 0
        have r1 : (w7.setCell ⟨b5, 2, none⟩ (Value.string x)).cell? ⟨w.heap.size, 1, none⟩ = some (Value.string { data := #[] }) := oR8.cell rfl (j := 1) (by simp)
        have rf1 : (w7.setCell ⟨b5, 2, none⟩ (Value.string x)).frozen? ⟨w.heap.size, 1, none⟩ = false := oR8.frozen rfl 1
        have r2 : (w7.setCell ⟨b5, 2, none⟩ (Value.string x)).cell? ⟨w.heap.size, 2, none⟩ = some (Value.string { data := #[] }) := oR8.cell rfl (j := 2) (by simp)
        have rf2 : (w7.setCell ⟨b5, 2, none⟩ (Value.string x)).frozen? ⟨w.heap.size, 2, none⟩ = false := oR8.frozen rfl 2
        have r3 : (w7.setCell ⟨b5, 2, none⟩ (Value.string x)).cell? ⟨w.heap.size, 3, none⟩ = some (Value.int .i64 0) := oR8.cell rfl (j := 3) (by simp)
        have rf3 : (w7.setCell ⟨b5, 2, none⟩ (Value.string x)).frozen? ⟨w.heap.size, 3, none⟩ = false := oR8.frozen rfl 3
        have hbF : Below w.heap.size (w7.setCell ⟨b5, 2, none⟩ (Value.string x)) (((((w7.setCell ⟨b5, 2, none⟩ (Value.string x)).setCell ⟨w.heap.size, 0, none⟩ (Value.string t)).setCell ⟨w.heap.size, 1, none⟩ (Value.string u)).setCell ⟨w.heap.size, 2, none⟩ (Value.string x)).setCell ⟨w.heap.size, 3, none⟩ (Value.int .i64 d)) := ((((Below.refl w.heap.size (w7.setCell ⟨b5, 2, none⟩ (Value.string x))).setCell (Nat.le_refl _) _).setCell (Nat.le_refl _) _).setCell (Nat.le_refl _) _).setCell (Nat.le_refl _) _
        have hgF := Lib.hid (only_below hw8 hbF (Nat.le_refl _))
        have hrF := Lib.hid (hr8.below hbF hlt)
        clear hbF
        go_wp2_with fail
        exact bodyPost_ret (v := .agg #[.string t, .string u, .string x, .int .i64 d]) (by simp [results, Try.results48, go_sem, r0, r1, r2, r3, rf0, rf1, rf2, rf3]) rfl ⟨(t, u, x, d), rfl, ht, hu, hx, hrF.out.more (by omega), hgF.out⟩
      · have hrT := hr6.alloc (.cells #[.int .i64 (-1), .int .i64 1460970] 3)
        go_wp2_with fail
        refine (pick_any g _ _ _ hrT (by omega)).mono ?_
        rintro e w7 ⟨y, rfl, hy0, hy1, hr7, hg7⟩
        obtain ⟨y, rfl⟩ := Int.eq_ofNat_of_zero_le hy0
        have hy : y < 2 := by omega
        have htab := tab_cell hg7 (by omega)
        obtain ⟨x, hcx⟩ : ∃ x : Int, w7.cell? ⟨w6.heap.size, y, none⟩ = some (.int .i64 x) := by
          rw [htab y]
          match y, hy with
          | 0, _ => exact ⟨-1, rfl⟩
          | 1, _ => exact ⟨1460970, rfl⟩
        clear htab
        have o57 := keptI (Own.below o56 ((Below.refl _ _).alloc (Nat.le_refl _) (.cells #[.int .i64 (-1), .int .i64 1460970] 3))) hg7 (by omega)
        have oR7 := keptI (Own.below oR6 ((Below.refl _ _).alloc (Nat.le_refl _) (.cells #[.int .i64 (-1), .int .i64 1460970] 3))) hg7 hlt
        have hw7 := (only_alloc w (some g) hw6 (.cells #[.int .i64 (-1), .int .i64 1460970] 3)).trans hg7
        clear o56 oR6 hr6 hw6 hrT
        have y0 : w7.cell? ⟨b5, 0, none⟩ = some (Value.string t) := o57.cell rfl (j := 0) (by simp)
        have yf0 : w7.frozen? ⟨b5, 0, none⟩ = false := o57.frozen rfl 0
        have y1 : w7.cell? ⟨b5, 1, none⟩ = some (Value.string u) := o57.cell rfl (j := 1) (by simp)
        have yf1 : w7.frozen? ⟨b5, 1, none⟩ = false := o57.frozen rfl 1
        have y2 : w7.cell? ⟨b5, 2, none⟩ = some (Value.string s) := o57.cell rfl (j := 2) (by simp)
        have yf2 : w7.frozen? ⟨b5, 2, none⟩ = false := o57.frozen rfl 2
        have y3 : w7.cell? ⟨b5, 3, none⟩ = some (Value.int .i64 d) := o57.cell rfl (j := 3) (by simp)
        have yf3 : w7.frozen? ⟨b5, 3, none⟩ = false := o57.frozen rfl 3
        have hs7 := hg7.size
        have hB7 : w.heap.size + 1 ≤ w7.heap.size := by have := (Own.lt o57 (b := b5) rfl); omega
        obtain ⟨o58, hb8⟩ := setI o57 (q := (t, u, s, x)) 3 (by omega) (Value.int .i64 x) (fun i hi => by rcases (by omega : i = 0 ∨ i = 1 ∨ i = 2 ∨ i = 3) with rfl | rfl | rfl | rfl <;> rfl) hB7
        have oR8 := Own.belowB oR7 hb8 (fun b hb => by simp [blk] at hb; omega)
        have hr8 := hr7.below hb8 (by omega)
        have hw8 := only_below hw7 hb8 (by omega)
        clear hb8 o57 oR7 hr7 hw7 hg7
        have k0 : (w7.setCell ⟨b5, 3, none⟩ (Value.int .i64 x)).cell? ⟨b5, 0, none⟩ = some (Value.string t) := o58.cell rfl (j := 0) (by simp)
        have kf0 : (w7.setCell ⟨b5, 3, none⟩ (Value.int .i64 x)).frozen? ⟨b5, 0, none⟩ = false := o58.frozen rfl 0
        have k1 : (w7.setCell ⟨b5, 3, none⟩ (Value.int .i64 x)).cell? ⟨b5, 1, none⟩ = some (Value.string u) := o58.cell rfl (j := 1) (by simp)
        have kf1 : (w7.setCell ⟨b5, 3, none⟩ (Value.int .i64 x)).frozen? ⟨b5, 1, none⟩ = false := o58.frozen rfl 1
        have k2 : (w7.setCell ⟨b5, 3, none⟩ (Value.int .i64 x)).cell? ⟨b5, 2, none⟩ = some (Value.string s) := o58.cell rfl (j := 2) (by simp)
        have kf2 : (w7.setCell ⟨b5, 3, none⟩ (Value.int .i64 x)).frozen? ⟨b5, 2, none⟩ = false := o58.frozen rfl 2
        have k3 : (w7.setCell ⟨b5, 3, none⟩ (Value.int .i64 x)).cell? ⟨b5, 3, none⟩ = some (Value.int .i64 x) := o58.cell rfl (j := 3) (by simp)
        have kf3 : (w7.setCell ⟨b5, 3, none⟩ (Value.int .i64 x)).frozen? ⟨b5, 3, none⟩ = false := o58.frozen rfl 3
        have r0 : (w7.setCell ⟨b5, 3, none⟩ (Value.int .i64 x)).cell? ⟨w.heap.size, 0, none⟩ = some (Value.string { data := #[] }) := oR8.cell rfl (j := 0) (by simp)
        have rf0 : (w7.setCell ⟨b5, 3, none⟩ (Value.int .i64 x)).frozen? ⟨w.heap.size, 0, none⟩ = false := oR8.frozen rfl 0
        have r1 : (w7.setCell ⟨b5, 3, none⟩ (Value.int .i64 x)).cell? ⟨w.heap.size, 1, none⟩ = some (Value.string { data := #[] }) := oR8.cell rfl (j := 1) (by simp)
        have rf1 : (w7.setCell ⟨b5, 3, none⟩ (Value.int .i64 x)).frozen? ⟨w.heap.size, 1, none⟩ = false := oR8.frozen rfl 1
        have r2 : (w7.setCell ⟨b5, 3, none⟩ (Value.int .i64 x)).cell? ⟨w.heap.size, 2, none⟩ = some (Value.string { data := #[] }) := oR8.cell rfl (j := 2) (by simp)
        have rf2 : (w7.setCell ⟨b5, 3, none⟩ (Value.int .i64 x)).frozen? ⟨w.heap.size, 2, none⟩ = false := oR8.frozen rfl 2
        have r3 : (w7.setCell ⟨b5, 3, none⟩ (Value.int .i64 x)).cell? ⟨w.heap.size, 3, none⟩ = some (Value.int .i64 0) := oR8.cell rfl (j := 3) (by simp)
        have rf3 : (w7.setCell ⟨b5, 3, none⟩ (Value.int .i64 x)).frozen? ⟨w.heap.size, 3, none⟩ = false := oR8.frozen rfl 3
        have hbF : Below w.heap.size (w7.setCell ⟨b5, 3, none⟩ (Value.int .i64 x)) (((((w7.setCell ⟨b5, 3, none⟩ (Value.int .i64 x)).setCell ⟨w.heap.size, 0, none⟩ (Value.string t)).setCell ⟨w.heap.size, 1, none⟩ (Value.string u)).setCell ⟨w.heap.size, 2, none⟩ (Value.string s)).setCell ⟨w.heap.size, 3, none⟩ (Value.int .i64 x)) := ((((Below.refl w.heap.size (w7.setCell ⟨b5, 3, none⟩ (Value.int .i64 x))).setCell (Nat.le_refl _) _).setCell (Nat.le_refl _) _).setCell (Nat.le_refl _) _).setCell (Nat.le_refl _) _
        have hgF := Lib.hid (only_below hw8 hbF (Nat.le_refl _))
        have hrF := Lib.hid (hr8.below hbF hlt)
        clear hbF
        go_wp2_with fail
        exact bodyPost_ret (v := .agg #[.string t, .string u, .string s, .int .i64 x]) (by simp [results, Try.results48, go_sem, r0, r1, r2, r3, rf0, rf1, rf2, rf3]) rfl ⟨(t, u, s, x), rfl, ht, hu, hs, hrF.out.more (by omega), hgF.out⟩
end Go.Proofs.Ytfnmlffpnmmcdaa
