import Derived.Test.YtdcppbaahoimfaaReader
import Derived.Test.YtdcppbaahoimfaaHvPlain
import Derived.Test.YtdcppbaahoimfaaDrawKit
namespace Go.Proofs.Ytdcppbaahoimfaa
open Go.RowKit
theorem below_of_only' {a b c : World} {g : Nat} (h : Below a.heap.size a b) (k : b.grownBy c (some g)) (hg : a.heap.size ≤ g) : Below a.heap.size a c :=
  h.trans ((Below.refl _ _).grown k h.size (fun i hi => by injection hi with hi; omega))
theorem sz40 {s : ByteArray} (h : s.size ≤ 40) : s.size ≤ maxLen := by simp only [maxLen]; omega
/-- A handle drawn. -/
def DrewH (g m : Nat) (w : World) (e : Ending) (w' : World) : Prop := ∃ a b : ByteArray, e = .returned (.agg #[.string a, .string b]) ∧ a.size ≤ 40 ∧ b.size ≤ 40 ∧ Rdr w' g m ∧ w.grownBy w' (some g)
theorem keptG {α : Type} [Inhabited α] {sz e base g cap : Nat} {enc : α → Nat → Value} {w w' : World} {A : Option Addr} {xs : List α} (h : OwnE sz enc e w base A cap xs) (hg : w.grownBy w' (some g)) (hlt : g < base) : OwnE sz enc e w' base A cap xs :=
  Own.kept h hg (by
    cases hA : blk A with
    | none => exact .inl rfl
    | some b => exact .inr (fun e => by injection e with e; have := (Own.lt h hA).1; omega))
set_option maxHeartbeats 1600000 in
theorem l20Place_any (g m : Nat) (n : Int) (w : World) (h : Rdr w g m) (hm : m ≤ 1000000) (hn : 0 ≤ n) (hn2 : n ≤ 1000000) :
    Calls Try.prog 50 #[.pointer (some ⟨g, 0, none⟩), .int .i64 n] w (DrewH g (m + 3) w) := by
  have hlt := h.lt
  have oR : OwnE 2 encHandle 28 (w.alloc (.cells #[.string { data := #[] }, .string { data := #[] }] 28)) w.heap.size (some ⟨w.heap.size, 0, none⟩) 1 [({ data := #[] }, { data := #[] })] := Own.lit w 28 2 1 #[.string { data := #[] }, .string { data := #[] }] (cE 2 encHandle [({ data := #[] }, { data := #[] })]) (by simp only [maxLen]; omega) rfl
  have hgA := only_alloc w (some g) (World.grownBy.refl _ _) (.cells #[.string { data := #[] }, .string { data := #[] }] 28)
  have hrA := h.alloc (.cells #[.string { data := #[] }, .string { data := #[] }] 28)
  have hzA : w.heap.size < (w.alloc (.cells #[.string { data := #[] }, .string { data := #[] }] 28)).heap.size := by simp
  go_enter Try.func50, Try.ntmps50
  go_wp2_with fail
  generalize (w.alloc (.cells #[.string { data := #[] }, .string { data := #[] }] 28)) = wA at *
  refine (odd_any g m _ _ hrA (by omega) hn hn2).mono ?_
  rintro e w1 ⟨q, rfl, hr1, hg1⟩
  have hw1 := hgA.trans hg1
  have oR1 := keptG oR hg1 hlt
  have hs1 := hg1.size
  clear hg1 hgA hrA oR
  cases q
  · have hne0 : g ≠ w.heap.size := by omega
    go_wp2_with fail
    refine wp_region_draws g 12 (m + 1) [(tabS g 5 #[.string { data := #[97] }, .string { data := #[98] }, .string { data := #[99] }, .string { data := #[100] }, .string { data := #[101] }]), (vS (fun v => v = .pointer (some ⟨g, 0, none⟩))), (vS (natP 5)), (ptrS g (strP 40)), (vS (strP 40)), (tabS g 2 #[.string { data := #[114, 101, 100] }, .string { data := #[115, 101, 97] }]), (vS (fun v => v = .pointer (some ⟨g, 0, none⟩))), (vS (natP 4)), (vS (natP 2)), (ptrS g (strP 40)), (vS (strP 40)), (vS (fun v => ∃ t u : ByteArray, v = .agg #[.string t, .string u] ∧ t.size ≤ 40 ∧ u.size ≤ 40))] [0, 0, 1, 0, 0, 0, 0, 1, 0, 0, 0, 0] (by kernel_rfl) (by kernel_rfl) (by rfl) (by rfl) (by rfl) ?_ hr1 ?_ ?_
    · repeat (first | exact stb_nil g | refine stb_cons (by first | exact tabS_stb _ _ _ | exact ptrS_stb _ _ | exact vS_stb _ _) ?_)
    · simp only [List.take_succ_cons, List.take_zero]
      refine looseSteps_cons (fun k a' w' hk0 hk1 hR hG hkp hd => ?_) ?_
      · have hgw := Rdr.lt hG
        unfold looseRun; go_simp; exact ⟨grown_alloc _ _ _, hG.alloc _, tabS_new hgw _ _⟩
      refine looseSteps_cons (fun k a' w' hk0 hk1 hR hG hkp hd => ?_) ?_
      · have hgw := Rdr.lt hG
        have k0 : a'.tmps.getD 0 undef = .pointer (some ⟨g, 0, none⟩) := hkp 0 (by rfl)
        unfold looseRun
        go_simp
        exact ⟨World.grownBy.refl _ _, hG, rfl⟩
      refine looseSteps_cons (fun k a' w' hk0 hk1 hR hG hkp hd => ?_) ?_
      · have hgw := Rdr.lt hG
        have e16 : a'.tmps.getD 16 undef = .pointer (some ⟨g, 0, none⟩) := hd.1 rfl
        unfold looseRun
        go_simp
        refine ⟨rfl, (pick_any g k _ _ hG (by simp at hk1; omega)).mono ?_⟩
        rintro e w2 ⟨z, rfl, hz0, hz1, hr2, hg2⟩
        exact ⟨_, rfl, hg2, hr2, z.toNat, by rw [Int.toNat_of_nonneg hz0], by omega⟩
      refine looseSteps_cons (fun k a' w' hk0 hk1 hR hG hkp hd => ?_) ?_
      · have hgw := Rdr.lt hG
        obtain ⟨b, e15, hb1, hb2, hbc⟩ := hd.1 rfl
        obtain ⟨z, e17, hz⟩ := hd.2.1 rfl
        have e15' : a'.tmps.getD 15 undef = _ := e15
        have e15q := e15'
        rw [Array.getD_eq_getD_getElem?] at e15q
        clear e15
        have e17' : a'.tmps.getD 17 undef = _ := e17
        have e17q := e17'
        rw [Array.getD_eq_getD_getElem?] at e17q
        clear e17
        have hz2 : (z : Int) < 5 := by omega
        have hel : ∃ t : ByteArray, t.size ≤ 40 ∧ (#[.string { data := #[97] }, .string { data := #[98] }, .string { data := #[99] }, .string { data := #[100] }, .string { data := #[101] }] : Array Value)[z]? = some (.string t) := by
          match z, hz with
          | 0, _ => exact ⟨{ data := #[97] }, by decide, rfl⟩
          | 1, _ => exact ⟨{ data := #[98] }, by decide, rfl⟩
          | 2, _ => exact ⟨{ data := #[99] }, by decide, rfl⟩
          | 3, _ => exact ⟨{ data := #[100] }, by decide, rfl⟩
          | 4, _ => exact ⟨{ data := #[101] }, by decide, rfl⟩
        obtain ⟨t, ht, het⟩ := hel
        unfold looseRun
        go_simp
        exact ⟨World.grownBy.refl _ _, hG, b, z, _, rfl, hb1, hb2, (hbc z).trans het, t, rfl, ht⟩
      refine looseSteps_cons (fun k a' w' hk0 hk1 hR hG hkp hd => ?_) ?_
      · have hgw := Rdr.lt hG
        obtain ⟨b, i, x, e1, hb1, hb2, hc, t, rfl, ht⟩ := hd.1 rfl
        have e2 : a'.tmps.getD 18 undef = _ := e1
        clear e1
        unfold looseRun
        go_simp
        exact ⟨World.grownBy.refl _ _, hG, t, rfl, ht⟩
      refine looseSteps_cons (fun k a' w' hk0 hk1 hR hG hkp hd => ?_) ?_
      · have hgw := Rdr.lt hG
        unfold looseRun; go_simp; exact ⟨grown_alloc _ _ _, hG.alloc _, tabS_new hgw _ _⟩
      refine looseSteps_cons (fun k a' w' hk0 hk1 hR hG hkp hd => ?_) ?_
      · have hgw := Rdr.lt hG
        have k0 : a'.tmps.getD 0 undef = .pointer (some ⟨g, 0, none⟩) := hkp 0 (by rfl)
        unfold looseRun
        go_simp
        exact ⟨World.grownBy.refl _ _, hG, rfl⟩
      refine looseSteps_cons (fun k a' w' hk0 hk1 hR hG hkp hd => ?_) ?_
      · have hgw := Rdr.lt hG
        have e21 : a'.tmps.getD 21 undef = .pointer (some ⟨g, 0, none⟩) := hd.1 rfl
        unfold looseRun
        go_simp
        refine ⟨rfl, (pick_any g k _ _ hG (by simp at hk1; omega)).mono ?_⟩
        rintro e w2 ⟨z, rfl, hz0, hz1, hr2, hg2⟩
        exact ⟨_, rfl, hg2, hr2, z.toNat, by rw [Int.toNat_of_nonneg hz0], by omega⟩
      refine looseSteps_cons (fun k a' w' hk0 hk1 hR hG hkp hd => ?_) ?_
      · have hgw := Rdr.lt hG
        obtain ⟨z, e1, hz⟩ := hd.1 rfl
        have e1' : a'.tmps.getD 22 undef = _ := e1
        have e1q := e1'
        rw [Array.getD_eq_getD_getElem?] at e1q
        clear e1
        have hz2 : (z : Int) < 4 := by omega
        have hz0 : (0 : Int) ≤ (z : Int) := by omega
        unfold looseRun
        go_simp
        exact ⟨World.grownBy.refl _ _, hG, z / 3, by simp; exact IntWalk.i64_in _ (by omega), by omega⟩
      refine looseSteps_cons (fun k a' w' hk0 hk1 hR hG hkp hd => ?_) ?_
      · have hgw := Rdr.lt hG
        obtain ⟨b, e20, hb1, hb2, hbc⟩ := hd.1 rfl
        obtain ⟨z, e23, hz⟩ := hd.2.1 rfl
        have e20' : a'.tmps.getD 20 undef = _ := e20
        have e20q := e20'
        rw [Array.getD_eq_getD_getElem?] at e20q
        clear e20
        have e23' : a'.tmps.getD 23 undef = _ := e23
        have e23q := e23'
        rw [Array.getD_eq_getD_getElem?] at e23q
        clear e23
        have hz2 : (z : Int) < 2 := by omega
        have hel : ∃ t : ByteArray, t.size ≤ 40 ∧ (#[.string { data := #[114, 101, 100] }, .string { data := #[115, 101, 97] }] : Array Value)[z]? = some (.string t) := by
          match z, hz with
          | 0, _ => exact ⟨{ data := #[114, 101, 100] }, by decide, rfl⟩
          | 1, _ => exact ⟨{ data := #[115, 101, 97] }, by decide, rfl⟩
        obtain ⟨t, ht, het⟩ := hel
        unfold looseRun
        go_simp
        exact ⟨World.grownBy.refl _ _, hG, b, z, _, rfl, hb1, hb2, (hbc z).trans het, t, rfl, ht⟩
      refine looseSteps_cons (fun k a' w' hk0 hk1 hR hG hkp hd => ?_) ?_
      · have hgw := Rdr.lt hG
        obtain ⟨b, i, x, e1, hb1, hb2, hc, t, rfl, ht⟩ := hd.1 rfl
        have e2 : a'.tmps.getD 24 undef = _ := e1
        clear e1
        unfold looseRun
        go_simp
        exact ⟨World.grownBy.refl _ _, hG, t, rfl, ht⟩
      refine looseSteps_cons (fun k a' w' hk0 hk1 hR hG hkp hd => ?_) ?_
      · have hgw := Rdr.lt hG
        obtain ⟨t, e1, ht⟩ := hd.1 rfl
        obtain ⟨u, e2, hu⟩ := hd.2.1 rfl
        have e1' : a'.tmps.getD 19 undef = _ := e1
        have e1q := e1'
        rw [Array.getD_eq_getD_getElem?] at e1q
        clear e1
        have e2' : a'.tmps.getD 25 undef = _ := e2
        have e2q := e2'
        rw [Array.getD_eq_getD_getElem?] at e2q
        clear e2
        unfold looseRun
        go_simp
        exact ⟨World.grownBy.refl _ _, hG, t, u, rfl, ht, hu⟩
      exact looseSteps_nil
    · intro w3 hg3 hr3
      simp only [List.take_succ_cons, List.take_zero, List.drop_succ_cons, List.drop_zero]
      refine looseAll_cons fun v15 h15 => ?_
      refine looseAll_cons fun v16 h16 => ?_
      refine looseAll_cons fun v17 h17 => ?_
      refine looseAll_cons fun v18 h18 => ?_
      refine looseAll_cons fun v19 h19 => ?_
      refine looseAll_cons fun v20 h20 => ?_
      refine looseAll_cons fun v21 h21 => ?_
      refine looseAll_cons fun v22 h22 => ?_
      refine looseAll_cons fun v23 h23 => ?_
      refine looseAll_cons fun v24 h24 => ?_
      refine looseAll_cons fun v25 h25 => ?_
      refine looseAll_cons fun v26 h26 => ?_
      refine looseAll_nil ?_
      obtain ⟨t, u, rfl, ht, hu⟩ := h26
      simp only [Act.put, List.setIfInBounds_toArray, List.set_cons_zero, List.set_cons_succ]
      have oR3 := keptG oR1 hg3 hlt
      have hw3 := hw1.trans hg3
      have hr3 : Rdr w3 g (m + 3) := hr3
      clear h15 h16 h17 h18 h19 h20 h21 h22 h23 h24 h25
      have r0 : w3.cell? ⟨w.heap.size, 0, none⟩ = some (Value.string { data := #[] }) := oR3.cell rfl (j := 0) (by simp)
      have rf0 : w3.frozen? ⟨w.heap.size, 0, none⟩ = false := oR3.frozen rfl 0
      have r1 : w3.cell? ⟨w.heap.size, 1, none⟩ = some (Value.string { data := #[] }) := oR3.cell rfl (j := 1) (by simp)
      have rf1 : w3.frozen? ⟨w.heap.size, 1, none⟩ = false := oR3.frozen rfl 1
      have hlW : w.heap.size < w3.heap.size := by have := (Own.lt oR3 (b := w.heap.size) rfl).2; exact this
      have hgF : Hid (w.grownBy ((w3.setCell ⟨w.heap.size, 0, none⟩ (.string t)).setCell ⟨w.heap.size, 1, none⟩ (.string u)) (some g)) := Lib.hid (only_below hw3 (((Below.refl w.heap.size w3).setCell (Nat.le_refl _) _).setCell (Nat.le_refl _) _) (Nat.le_refl _))
      have hrF : Rdr ((w3.setCell ⟨w.heap.size, 0, none⟩ (.string t)).setCell ⟨w.heap.size, 1, none⟩ (.string u)) g (m + 3) := (hr3.below (((Below.refl w.heap.size w3).setCell (Nat.le_refl _) _).setCell (Nat.le_refl _) _) hlt).more (by omega)
      go_wp2_with fail
      exact bodyPost_ret (v := .agg #[.string t, .string u]) (by simp [results, Try.results50, go_sem, r0, r1, rf0, rf1]) rfl ⟨t, u, rfl, ht, hu, hrF, hgF.out⟩
  · skip
    have hrTw2 := hr1.alloc (.cells #[.string { data := #[] }, .string { data := #[] }, .string { data := #[97] }, .string { data := #[] }] 28)
    go_wp2_with fail
    refine (pick_any g _ _ _ hrTw2 (by omega)).mono ?_
    rintro e w2 ⟨y, rfl, y0, y1, hr2, hgw2⟩
    obtain ⟨y, rfl⟩ := Int.eq_ofNat_of_zero_le y0
    have hy : y < 2 := by omega
    have htabw2 := tab_cell hgw2 (by omega)
    have oR2 := keptG (Own.below oR1 ((Below.refl _ _).alloc (Nat.le_refl _) (.cells #[.string { data := #[] }, .string { data := #[] }, .string { data := #[97] }, .string { data := #[] }] 28))) hgw2 hlt
    have hw2 := (only_alloc w (some g) hw1 (.cells #[.string { data := #[] }, .string { data := #[] }, .string { data := #[97] }, .string { data := #[] }] 28)).trans hgw2
    have hsw2 := hw2.size
    clear y0 y1 hrTw2
    have hel : ∃ t : ByteArray, t.size ≤ 40 ∧ w2.cell? ⟨w1.heap.size, y * 2, none⟩ = some (.string t) ∧ w2.cell? ⟨w1.heap.size, y * 2 + 1, none⟩ = some (.string { data := #[] }) := by
      rw [htabw2 (y * 2), htabw2 (y * 2 + 1)]
      match y, hy with
      | 0, _ => exact ⟨{ data := #[] }, by decide, rfl, rfl⟩
      | 1, _ => exact ⟨{ data := #[97] }, by decide, rfl, rfl⟩
    obtain ⟨t, ht, hct, hcu⟩ := hel
    clear htabw2 hgw2
    have r0 : w2.cell? ⟨w.heap.size, 0, none⟩ = some (Value.string { data := #[] }) := oR2.cell rfl (j := 0) (by simp)
    have rf0 : w2.frozen? ⟨w.heap.size, 0, none⟩ = false := oR2.frozen rfl 0
    have r1 : w2.cell? ⟨w.heap.size, 1, none⟩ = some (Value.string { data := #[] }) := oR2.cell rfl (j := 1) (by simp)
    have rf1 : w2.frozen? ⟨w.heap.size, 1, none⟩ = false := oR2.frozen rfl 1
    have hlW : w.heap.size < w2.heap.size := by have := (Own.lt oR2 (b := w.heap.size) rfl).2; exact this
    have hgF : Hid (w.grownBy ((w2.setCell ⟨w.heap.size, 0, none⟩ (.string t)).setCell ⟨w.heap.size, 1, none⟩ (.string { data := #[] })) (some g)) := Lib.hid (only_below hw2 (((Below.refl w.heap.size w2).setCell (Nat.le_refl _) _).setCell (Nat.le_refl _) _) (Nat.le_refl _))
    have hrF : Rdr ((w2.setCell ⟨w.heap.size, 0, none⟩ (.string t)).setCell ⟨w.heap.size, 1, none⟩ (.string { data := #[] })) g (m + 3) := (hr2.below (((Below.refl w.heap.size w2).setCell (Nat.le_refl _) _).setCell (Nat.le_refl _) _) hlt).more (by omega)
    go_wp2_with fail
    exact bodyPost_ret (v := .agg #[.string t, .string { data := #[] }]) (by simp [results, Try.results50, go_sem, r0, r1, rf0, rf1]) rfl ⟨t, { data := #[] }, rfl, ht, (by decide), hrF, hgF.out⟩
end Go.Proofs.Ytdcppbaahoimfaa
