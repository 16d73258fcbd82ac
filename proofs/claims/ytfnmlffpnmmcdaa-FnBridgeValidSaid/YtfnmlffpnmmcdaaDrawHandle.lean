/- The draws of a handle. -/
import Derived.Test.YtfnmlffpnmmcdaaDrawKit
import Derived.Test.YtfnmlffpnmmcdaaDrawWord
import Derived.Test.YtfnmlffpnmmcdaaHandle
namespace Go.Proofs.Ytfnmlffpnmmcdaa
open Go.RowKit
def DrewHd (g m : Nat) (w : World) (e : Ending) (w' : World) : Prop := ∃ p : ElHandle, e = .returned (.agg #[.string p.1, .string p.2]) ∧ p.1.size ≤ 9 ∧ p.2.size ≤ 9 ∧ Rdr w' g m ∧ w.grownBy w' (some g)
theorem keptH {sz e base g cap : Nat} {enc : ElHandle → Nat → Value} {w w' : World} {A : Option Addr} {xs : List ElHandle} (h : OwnE sz enc e w base A cap xs) (hg : w.grownBy w' (some g)) (hlt : g < base) : OwnE sz enc e w' base A cap xs :=
  Own.kept h hg (by
    cases hA : blk A with
    | none => exact .inl rfl
    | some b => exact .inr (fun e => by injection e with e; have := (Own.lt h hA).1; omega))
/-- A table in a block of its own, each of whose cells holds something of a kind. -/
def tabQ (g n : Nat) (q : Value → Prop) : Spec := fun v w => ∃ b, v = .slice (some ⟨b, 0, none⟩) n n ∧ g < b ∧ b < w.heap.size ∧ ∀ i, i < n → ∃ x, w.cell? ⟨b, i, none⟩ = some x ∧ q x
theorem tabQ_stb (g n : Nat) (q : Value → Prop) : Stb g (tabQ g n q) := fun _ _ _ h ⟨b, h1, h2, h3, h4⟩ => ⟨b, h1, h2, Nat.lt_of_lt_of_le h3 h.size, fun i hi => by rw [cell_stb h h2 h3]; exact h4 i hi⟩
theorem tabQ_new {g n : Nat} {q : Value → Prop} {w : World} (h : g < w.heap.size) (cs : Array Value) (e : TypeId) (hq : ∀ i, i < n → ∃ x, cs[i]? = some x ∧ q x) : tabQ g n q (.slice (some ⟨w.heap.size, 0, none⟩) n n) (w.alloc (.cells cs e)) :=
  ⟨w.heap.size, rfl, h, by simp, fun i hi => by rw [World.cell?_alloc_at _ _ _ _ rfl]; exact hq i hi⟩
set_option maxHeartbeats 1600000 in
theorem l20Handle_any (g m : Nat) (n : Int) (w : World) (h : Rdr w g m) (hm : m ≤ 900000) (hn : 0 ≤ n) (hn2 : n ≤ 1000000) :
    Calls Try.prog 32 #[.pointer (some ⟨g, 0, none⟩), .int .i64 n] w (DrewHd g (m + 6) w) := by
  have hlt := h.lt
  have oR : OwnE 2 encHandle 24 (w.alloc (.cells #[.string { data := #[] }, .string { data := #[] }] 24)) w.heap.size (some ⟨w.heap.size, 0, none⟩) 1 [({ data := #[] }, { data := #[] })] := Own.lit w 24 2 1 #[.string { data := #[] }, .string { data := #[] }] (cE 2 encHandle [({ data := #[] }, { data := #[] })]) (by simp only [maxLen]; omega) rfl
  have hgA := only_alloc w (some g) (World.grownBy.refl _ _) (.cells #[.string { data := #[] }, .string { data := #[] }] 24)
  have hrA := h.alloc (.cells #[.string { data := #[] }, .string { data := #[] }] 24)
  have hzA : w.heap.size < (w.alloc (.cells #[.string { data := #[] }, .string { data := #[] }] 24)).heap.size := by simp
  go_enter Try.func32, Try.ntmps32
  go_wp2_with fail
  generalize (w.alloc (.cells #[.string { data := #[] }, .string { data := #[] }] 24)) = wA at *
  refine wp_region_draws g 17 m [(vS (fun v => v = .pointer (some ⟨g, 0, none⟩))), (vS (fun v => v = .int .i64 n)), (vS (strP 9)), (tabQ g 4 (strP 9)), (vS (fun v => v = .pointer (some ⟨g, 0, none⟩))), (vS (natP 4)), (ptrS g (strP 9)), (vS (strP 9)), (vS (fun v => v = .pointer (some ⟨g, 0, none⟩))), (vS (fun v => v = .int .i64 n)), (vS (strP 9)), (tabQ g 3 (strP 9)), (vS (fun v => v = .pointer (some ⟨g, 0, none⟩))), (vS (natP 3)), (ptrS g (strP 9)), (vS (strP 9)), (vS (fun v => ∃ (a b : ByteArray), v = .agg #[.string a, .string b] ∧ a.size ≤ 9 ∧ b.size ≤ 9))] [0, 0, 2, 0, 0, 1, 0, 0, 0, 0, 2, 0, 0, 1, 0, 0, 0] (by kernel_rfl) (by kernel_rfl) (by rfl) (by rfl) (by rfl) ?_ hrA ?_ ?_
  · repeat (first | exact stb_nil g | refine stb_cons (by first | exact tabQ_stb _ _ _ | exact ptrS_stb _ _ | exact vS_stb _ _) ?_)
  · simp only [List.take_succ_cons, List.take_zero]
    refine looseSteps_cons (fun k a' w' hk0 hk1 hR hG hkp hd => ?_) ?_
    · have hgw := Rdr.lt hG
      have k0 : a'.tmps.getD 0 undef = .pointer (some ⟨g, 0, none⟩) := hkp 0 (by rfl)
      unfold looseRun
      go_simp
      exact ⟨World.grownBy.refl _ _, hG, rfl⟩
    refine looseSteps_cons (fun k a' w' hk0 hk1 hR hG hkp hd => ?_) ?_
    · have hgw := Rdr.lt hG
      have k1 : a'.tmps.getD 1 undef = .int .i64 n := hkp 1 (by rfl)
      unfold looseRun
      go_simp
      exact ⟨World.grownBy.refl _ _, hG, rfl⟩
    refine looseSteps_cons (fun k a' w' hk0 hk1 hR hG hkp hd => ?_) ?_
    · have hgw := Rdr.lt hG
      have e5 : a'.tmps.getD 5 undef = .pointer (some ⟨g, 0, none⟩) := hd.1 rfl
      have e6 : a'.tmps.getD 6 undef = .int .i64 n := hd.2.1 rfl
      unfold looseRun
      go_simp
      refine ⟨rfl, (l20Word_any g k _ _ hG (by simp at hk1; omega) hn hn2).mono ?_⟩
      rintro e w2 ⟨s, rfl, hs, hr2, hg2⟩
      exact ⟨_, rfl, hg2, hr2, s, rfl, hs⟩
    refine looseSteps_cons (fun k a' w' hk0 hk1 hR hG hkp hd => ?_) ?_
    · have hgw := Rdr.lt hG
      obtain ⟨t, e7, ht⟩ := hd.1 rfl
      have e7' : a'.tmps.getD 7 undef = _ := e7
      have e7q := e7'
      rw [Array.getD_eq_getD_getElem?] at e7q
      clear e7
      unfold looseRun
      go_simp
      refine ⟨grown_alloc _ _ _, hG.alloc _, tabQ_new hgw _ _ ?_⟩
      intro i hi
      match i, hi with
      | 0, _ => exact ⟨_, rfl, { data := #[97, 110, 110] }, rfl, by decide⟩
      | 1, _ => exact ⟨_, rfl, { data := #[98, 111, 98] }, rfl, by decide⟩
      | 2, _ => exact ⟨_, rfl, { data := #[101, 118, 101] }, rfl, by decide⟩
      | 3, _ => exact ⟨_, rfl, t, rfl, ht⟩
    refine looseSteps_cons (fun k a' w' hk0 hk1 hR hG hkp hd => ?_) ?_
    · have hgw := Rdr.lt hG
      have k0 : a'.tmps.getD 0 undef = .pointer (some ⟨g, 0, none⟩) := hkp 0 (by rfl)
      unfold looseRun
      go_simp
      exact ⟨World.grownBy.refl _ _, hG, rfl⟩
    refine looseSteps_cons (fun k a' w' hk0 hk1 hR hG hkp hd => ?_) ?_
    · have hgw := Rdr.lt hG
      have e9 : a'.tmps.getD 9 undef = .pointer (some ⟨g, 0, none⟩) := hd.1 rfl
      unfold looseRun
      go_simp
      refine ⟨rfl, (pick_any g k _ _ hG (by simp at hk1; omega)).mono ?_⟩
      rintro e w2 ⟨z, rfl, hz0, hz1, hr2, hg2⟩
      exact ⟨_, rfl, hg2, hr2, z.toNat, by rw [Int.toNat_of_nonneg hz0], by omega⟩
    refine looseSteps_cons (fun k a' w' hk0 hk1 hR hG hkp hd => ?_) ?_
    · have hgw := Rdr.lt hG
      obtain ⟨b, e8, hb1, hb2, hbc⟩ := hd.1 rfl
      obtain ⟨z, e10, hz⟩ := hd.2.1 rfl
      have e8' : a'.tmps.getD 8 undef = _ := e8
      have e8q := e8'
      rw [Array.getD_eq_getD_getElem?] at e8q
      clear e8
      have e10' : a'.tmps.getD 10 undef = _ := e10
      have e10q := e10'
      rw [Array.getD_eq_getD_getElem?] at e10q
      clear e10
      have hz2 : (z : Int) < 4 := by omega
      obtain ⟨x, hx, hqx⟩ := hbc z hz
      unfold looseRun
      go_simp
      exact ⟨World.grownBy.refl _ _, hG, b, z, x, rfl, hb1, hb2, hx, hqx⟩
    refine looseSteps_cons (fun k a' w' hk0 hk1 hR hG hkp hd => ?_) ?_
    · have hgw := Rdr.lt hG
      obtain ⟨b, i, x, e1, hb1, hb2, hc, t, rfl, ht⟩ := hd.1 rfl
      have e2 : a'.tmps.getD 11 undef = _ := e1
      clear e1
      unfold looseRun
      go_simp
      exact ⟨World.grownBy.refl _ _, hG, t, rfl, ht⟩
    refine looseSteps_cons (fun k a' w' hk0 hk1 hR hG hkp hd => ?_) ?_
    · have hgw := Rdr.lt hG
      have k0 : a'.tmps.getD 0 undef = .pointer (some ⟨g, 0, none⟩) := hkp 0 (by rfl)
      unfold looseRun
      go_simp
      exact ⟨World.grownBy.refl _ _, hG, rfl⟩
    refine looseSteps_cons (fun k a' w' hk0 hk1 hR hG hkp hd => ?_) ?_
    · have hgw := Rdr.lt hG
      have k1 : a'.tmps.getD 1 undef = .int .i64 n := hkp 1 (by rfl)
      unfold looseRun
      go_simp
      exact ⟨World.grownBy.refl _ _, hG, rfl⟩
    refine looseSteps_cons (fun k a' w' hk0 hk1 hR hG hkp hd => ?_) ?_
    · have hgw := Rdr.lt hG
      have e13 : a'.tmps.getD 13 undef = .pointer (some ⟨g, 0, none⟩) := hd.1 rfl
      have e14 : a'.tmps.getD 14 undef = .int .i64 n := hd.2.1 rfl
      unfold looseRun
      go_simp
      refine ⟨rfl, (l20Word_any g k _ _ hG (by simp at hk1; omega) hn hn2).mono ?_⟩
      rintro e w2 ⟨s, rfl, hs, hr2, hg2⟩
      exact ⟨_, rfl, hg2, hr2, s, rfl, hs⟩
    refine looseSteps_cons (fun k a' w' hk0 hk1 hR hG hkp hd => ?_) ?_
    · have hgw := Rdr.lt hG
      obtain ⟨t, e15, ht⟩ := hd.1 rfl
      have e15' : a'.tmps.getD 15 undef = _ := e15
      have e15q := e15'
      rw [Array.getD_eq_getD_getElem?] at e15q
      clear e15
      unfold looseRun
      go_simp
      refine ⟨grown_alloc _ _ _, hG.alloc _, tabQ_new hgw _ _ ?_⟩
      intro i hi
      match i, hi with
      | 0, _ => exact ⟨_, rfl, { data := #[114, 101, 100] }, rfl, by decide⟩
      | 1, _ => exact ⟨_, rfl, { data := #[115, 101, 97] }, rfl, by decide⟩
      | 2, _ => exact ⟨_, rfl, t, rfl, ht⟩
    refine looseSteps_cons (fun k a' w' hk0 hk1 hR hG hkp hd => ?_) ?_
    · have hgw := Rdr.lt hG
      have k0 : a'.tmps.getD 0 undef = .pointer (some ⟨g, 0, none⟩) := hkp 0 (by rfl)
      unfold looseRun
      go_simp
      exact ⟨World.grownBy.refl _ _, hG, rfl⟩
    refine looseSteps_cons (fun k a' w' hk0 hk1 hR hG hkp hd => ?_) ?_
    · have hgw := Rdr.lt hG
      have e17 : a'.tmps.getD 17 undef = .pointer (some ⟨g, 0, none⟩) := hd.1 rfl
      unfold looseRun
      go_simp
      refine ⟨rfl, (pick_any g k _ _ hG (by simp at hk1; omega)).mono ?_⟩
      rintro e w2 ⟨z, rfl, hz0, hz1, hr2, hg2⟩
      exact ⟨_, rfl, hg2, hr2, z.toNat, by rw [Int.toNat_of_nonneg hz0], by omega⟩
    refine looseSteps_cons (fun k a' w' hk0 hk1 hR hG hkp hd => ?_) ?_
    · have hgw := Rdr.lt hG
      obtain ⟨b, e16, hb1, hb2, hbc⟩ := hd.1 rfl
      obtain ⟨z, e18, hz⟩ := hd.2.1 rfl
      have e16' : a'.tmps.getD 16 undef = _ := e16
      have e16q := e16'
      rw [Array.getD_eq_getD_getElem?] at e16q
      clear e16
      have e18' : a'.tmps.getD 18 undef = _ := e18
      have e18q := e18'
      rw [Array.getD_eq_getD_getElem?] at e18q
      clear e18
      have hz2 : (z : Int) < 3 := by omega
      obtain ⟨x, hx, hqx⟩ := hbc z hz
      unfold looseRun
      go_simp
      exact ⟨World.grownBy.refl _ _, hG, b, z, x, rfl, hb1, hb2, hx, hqx⟩
    refine looseSteps_cons (fun k a' w' hk0 hk1 hR hG hkp hd => ?_) ?_
    · have hgw := Rdr.lt hG
      obtain ⟨b, i, x, e1, hb1, hb2, hc, t, rfl, ht⟩ := hd.1 rfl
      have e2 : a'.tmps.getD 19 undef = _ := e1
      clear e1
      unfold looseRun
      go_simp
      exact ⟨World.grownBy.refl _ _, hG, t, rfl, ht⟩
    refine looseSteps_cons (fun k a' w' hk0 hk1 hR hG hkp hd => ?_) ?_
    · have hgw := Rdr.lt hG
      obtain ⟨t, e1, ht⟩ := hd.1 rfl
      obtain ⟨u, e2, hu⟩ := hd.2.1 rfl
      have e1' : a'.tmps.getD 12 undef = _ := e1
      have e1q := e1'
      rw [Array.getD_eq_getD_getElem?] at e1q
      clear e1
      have e2' : a'.tmps.getD 20 undef = _ := e2
      have e2q := e2'
      rw [Array.getD_eq_getD_getElem?] at e2q
      clear e2
      unfold looseRun
      go_simp
      first | exact ⟨World.grownBy.refl _ _, hG, t, u, rfl, ht, hu⟩ | exact ⟨World.grownBy.refl _ _, hG, t, u, ⟨rfl, rfl⟩, ht, hu⟩
    exact looseSteps_nil
  · intro w3 hg3 hr3
    simp only [List.take_succ_cons, List.take_zero, List.drop_succ_cons, List.drop_zero]
    refine looseAll_cons fun v5 h5 => ?_
    refine looseAll_cons fun v6 h6 => ?_
    refine looseAll_cons fun v7 h7 => ?_
    refine looseAll_cons fun v8 h8 => ?_
    refine looseAll_cons fun v9 h9 => ?_
    refine looseAll_cons fun v10 h10 => ?_
    refine looseAll_cons fun v11 h11 => ?_
    refine looseAll_cons fun v12 h12 => ?_
    refine looseAll_cons fun v13 h13 => ?_
    refine looseAll_cons fun v14 h14 => ?_
    refine looseAll_cons fun v15 h15 => ?_
    refine looseAll_cons fun v16 h16 => ?_
    refine looseAll_cons fun v17 h17 => ?_
    refine looseAll_cons fun v18 h18 => ?_
    refine looseAll_cons fun v19 h19 => ?_
    refine looseAll_cons fun v20 h20 => ?_
    refine looseAll_cons fun v21 h21 => ?_
    refine looseAll_nil ?_
    obtain ⟨a, b, rfl, ha, hb⟩ := h21
    simp only [Act.put, List.setIfInBounds_toArray, List.set_cons_zero, List.set_cons_succ]
    have oR3 := keptH oR hg3 hlt
    have hw3 := hgA.trans hg3
    have hr3 : Rdr w3 g (m + 6) := hr3
    clear h5 h6 h7 h8 h9 h10 h11 h12 h13 h14 h15 h16 h17 h18 h19 h20
    have r0 : w3.cell? ⟨w.heap.size, 0, none⟩ = some (Value.string { data := #[] }) := oR3.cell rfl (j := 0) (by simp)
    have r1 : w3.cell? ⟨w.heap.size, 1, none⟩ = some (Value.string { data := #[] }) := oR3.cell rfl (j := 1) (by simp)
    have rf0 : w3.frozen? ⟨w.heap.size, 0, none⟩ = false := oR3.frozen rfl 0
    have rf1 : w3.frozen? ⟨w.heap.size, 1, none⟩ = false := oR3.frozen rfl 1
    have hbF : Below w.heap.size w3 ((w3.setCell ⟨w.heap.size, 0, none⟩ (Value.string a)).setCell ⟨w.heap.size, 1, none⟩ (Value.string b)) := ((Below.refl w.heap.size w3).setCell (Nat.le_refl _) _).setCell (Nat.le_refl _) _
    have hgF := Lib.hid (only_below hw3 hbF (Nat.le_refl _))
    have hrF := Lib.hid (hr3.below hbF hlt)
    clear hbF
    go_wp2_with fail
    exact bodyPost_ret (v := .agg #[.string a, .string b]) (by simp [results, Try.results32, go_sem, r0, r1, rf0, rf1]) rfl ⟨(a, b), rfl, ha, hb, hrF.out, hgF.out⟩
end Go.Proofs.Ytfnmlffpnmmcdaa
