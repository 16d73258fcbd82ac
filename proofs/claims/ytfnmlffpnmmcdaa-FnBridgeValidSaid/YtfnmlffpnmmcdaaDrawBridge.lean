/- The draws of a bridge. -/
import Derived.Test.YtfnmlffpnmmcdaaDrawFeed
import Derived.Test.YtfnmlffpnmmcdaaDrawFans
import Derived.Test.YtfnmlffpnmmcdaaBridge
namespace Go.Proofs.Ytfnmlffpnmmcdaa
open Go.RowKit
def DrewBr (g m : Nat) (w : World) (e : Ending) (w' : World) : Prop := ∃ (who : ElHandle) (I : Option Addr) (ci : Nat) (is : List ElItem) (F : Option Addr) (cf : Nat) (fs : List ElHandle) (nx : Int), e = .returned (.agg #[.string who.1, .string who.2, .slice I is.length ci, .slice F fs.length cf, .int .i64 nx]) ∧ (who.1.size ≤ 9 ∧ who.2.size ≤ 9) ∧ (is.length ≤ 7 ∧ ∀ x ∈ is, x.1.size ≤ 81 ∧ x.2.1.size ≤ 81 ∧ x.2.2.1.size ≤ 81) ∧ (fs.length ≤ 6 ∧ ∀ x ∈ fs, x.1.size ≤ 9 ∧ x.2.size ≤ 9) ∧ (-1 ≤ nx ∧ nx ≤ 1000001) ∧ OwnE 4 encItem 68 w' w.heap.size I ci is ∧ OwnE 2 encHandle 24 w' w.heap.size F cf fs ∧ Rdr w' g m ∧ w.grownBy w' (some g)
/-- A bridge's cells. -/
def brF (who : ElHandle) (A C : Value) (nx : Int) : Nat → Value
  | 0 => Value.string who.1
  | 1 => Value.string who.2
  | 2 => A
  | 3 => C
  | _ => Value.int .i64 nx
theorem keptB {sz e base g cap n : Nat} {w w' : World} {A : Option Addr} {f : Nat → Value} (h : Own w base e sz A n cap f) (hg : w.grownBy w' (some g)) (hlt : g < base) : Own w' base e sz A n cap f :=
  Own.kept h hg (by
    cases hA : blk A with
    | none => exact .inl rfl
    | some b => exact .inr (fun e => by injection e with e; have := (Own.lt h hA).1; omega))
/-- One field set. -/
theorem setB {w : World} {B b : Nat} {f f2 : Nat → Value} (h : Own w B 28 5 (some ⟨b, 0, none⟩) 1 1 f) (j : Nat) (hj : j < 5) (v : Value) (hv : ∀ i, i < 5 → f2 i = if i = j then v else f i) (hB : B ≤ w.heap.size) :
    Own (w.setCell ⟨b, j, none⟩ v) B 28 5 (some ⟨b, 0, none⟩) 1 1 f2 ∧ Below B w (w.setCell ⟨b, j, none⟩ v) := by
  have s0 := Own.set h rfl (j := j) v
  exact ⟨Own.congr s0.1 (fun i hi => (hv i (by omega)).symm), grown_below s0.2 (fun x hx => (Own.lt h hx).1) hB⟩
set_option maxHeartbeats 3200000 in
theorem l20Bridge_any (g m : Nat) (n : Int) (w : World) (h : Rdr w g m) (hm : m ≤ 700000) (hn : 0 ≤ n) (hn2 : n ≤ 1000000) :
    Calls Try.prog 12 #[.pointer (some ⟨g, 0, none⟩), .int .i64 n] w (DrewBr g (m + 250) w) := by
  have hlt := h.lt
  have oR : Own (w.alloc (.cells #[.string { data := #[] }, .string { data := #[] }, .slice none 0 0, .slice none 0 0, .int .i64 0] 28)) w.heap.size 28 5 (some ⟨w.heap.size, 0, none⟩) 1 1 zBr := Own.lit w 28 5 1 #[.string { data := #[] }, .string { data := #[] }, .slice none 0 0, .slice none 0 0, .int .i64 0] zBr (by simp only [maxLen]; omega) rfl
  have hgA := only_alloc w (some g) (World.grownBy.refl _ _) (.cells #[.string { data := #[] }, .string { data := #[] }, .slice none 0 0, .slice none 0 0, .int .i64 0] 28)
  have hrA := h.alloc (.cells #[.string { data := #[] }, .string { data := #[] }, .slice none 0 0, .slice none 0 0, .int .i64 0] 28)
  have hzA : w.heap.size < (w.alloc (.cells #[.string { data := #[] }, .string { data := #[] }, .slice none 0 0, .slice none 0 0, .int .i64 0] 28)).heap.size := by simp
  go_enter Try.func12, Try.ntmps12
  go_wp2_with fail
  generalize (w.alloc (.cells #[.string { data := #[] }, .string { data := #[] }, .slice none 0 0, .slice none 0 0, .int .i64 0] 28)) = wA at *
  refine (l20Handle_any g m _ _ hrA (by omega) (by omega) (by omega)).mono ?_
  rintro e w1 ⟨who, rfl, hw0, hw1, hr1, hg1⟩
  have hgw1 := hgA.trans hg1
  have hs1 := hg1.size
  go_wp2_with fail
  refine (l20Feed_any g _ _ _ hr1 (by omega) (by omega) (by omega)).mono ?_
  rintro e w2 ⟨I, ci, is, rfl, hil, hiz, oI, hr2, hg2⟩
  have HIZ := Lib.hid hiz
  clear hiz
  have hgw2 := hgw1.trans hg2
  have hs2 := hg2.size
  go_wp2_with fail
  refine (l20Fans_any g _ _ _ hr2 (by omega) (by omega) (by omega)).mono ?_
  rintro e w3 ⟨F, cf, fs, rfl, hfl, hfz, oF, hr3, hg3⟩
  have HFZ := Lib.hid hfz
  clear hfz
  have hgw3 := hgw2.trans hg3
  have hs3 := hg3.size
  have oI3 := keptI oI hg3 (by omega)
  go_wp2_with fail
  refine (pick_any g _ _ _ hr3 (by omega)).mono ?_
  rintro e w4 ⟨x, rfl, hx0, hx1, hr4, hg4⟩
  have hx2 : x ≤ 1000000 := by omega
  have hgw4 := hgw3.trans hg4
  have hs4 := hg4.size
  have oR4 := keptB (keptB (keptB (keptB oR hg1 hlt) hg2 hlt) hg3 hlt) hg4 hlt
  have oI4 := Own.more (base' := w.heap.size + 1) (keptI oI3 hg4 (by omega)) (by omega)
  have oF4 := Own.more (base' := w.heap.size + 1) (keptH oF hg4 (by omega)) (by omega)
  clear oI oI3 oF oR hg1 hg2 hg3 hg4 hr1 hr2 hr3 hgw1 hgw2 hgw3 hgA hrA hx1
  have hrT := hr4.alloc (.cells #[.int .i64 x, .int .i64 1000000] 3)
  have oRT := Own.below oR4 ((Below.refl _ _).alloc (Nat.le_refl _) (.cells #[.int .i64 x, .int .i64 1000000] 3))
  have oIT := Own.below oI4 ((Below.refl _ _).alloc (Nat.le_refl _) (.cells #[.int .i64 x, .int .i64 1000000] 3))
  have oFT := Own.below oF4 ((Below.refl _ _).alloc (Nat.le_refl _) (.cells #[.int .i64 x, .int .i64 1000000] 3))
  have hgT := only_alloc w (some g) hgw4 (.cells #[.int .i64 x, .int .i64 1000000] 3)
  have hzT : w4.heap.size < (w4.alloc (.cells #[.int .i64 x, .int .i64 1000000] 3)).heap.size := by simp
  go_wp2_with fail
  refine (pick_any g _ _ _ hrT (by omega)).mono ?_
  rintro e w5 ⟨y, rfl, hy0, hy1, hr5, hg5⟩
  have hy2 : y ≤ 13 := by omega
  have htab := tab_cell hg5 (by omega)
  obtain ⟨z, hz, hyz⟩ : ∃ z : Nat, z < 2 ∧ y / 13 = (z : Int) := ⟨(y / 13).toNat, by omega, by omega⟩
  obtain ⟨nx, hnx0, hnx1, hcx⟩ : ∃ nx : Int, -1 ≤ nx ∧ nx ≤ 1000001 ∧ w5.cell? ⟨w4.heap.size, z, none⟩ = some (.int .i64 nx) := by
    rw [htab z]
    match z, hz with
    | 0, _ => exact ⟨x, by omega, by omega, rfl⟩
    | 1, _ => exact ⟨1000000, by omega, by omega, rfl⟩
  have oR5 := keptB oRT hg5 hlt
  have oI5 := keptI oIT hg5 (by omega)
  have oF5 := keptH oFT hg5 (by omega)
  have hgw5 := hgT.trans hg5
  have hs5 := hg5.size
  have hz2 : (z : Int) < 2 := by omega
  clear htab oR4 oI4 oF4 oRT oIT oFT hgT hg5 hrT hr4 hgw4
  have o6 : Own (w5.alloc (.cells #[Value.string who.1, Value.string who.2, Value.slice I is.length ci, Value.slice F fs.length cf, Value.int .i64 nx] 28)) (w.heap.size + 1) 28 5 (some ⟨w5.heap.size, 0, none⟩) 1 1 (brF who (Value.slice I is.length ci) (Value.slice F fs.length cf) nx) := Own.more (Own.lit w5 28 5 1 #[Value.string who.1, Value.string who.2, Value.slice I is.length ci, Value.slice F fs.length cf, Value.int .i64 nx] (brF who (Value.slice I is.length ci) (Value.slice F fs.length cf) nx) (by simp only [maxLen]; omega) rfl) (by omega)
  have oR6 := Own.below oR5 ((Below.refl _ _).alloc (Nat.le_refl _) (.cells #[Value.string who.1, Value.string who.2, Value.slice I is.length ci, Value.slice F fs.length cf, Value.int .i64 nx] 28))
  have oI6 := Own.below oI5 ((Below.refl _ _).alloc (Nat.le_refl _) (.cells #[Value.string who.1, Value.string who.2, Value.slice I is.length ci, Value.slice F fs.length cf, Value.int .i64 nx] 28))
  have oF6 := Own.below oF5 ((Below.refl _ _).alloc (Nat.le_refl _) (.cells #[Value.string who.1, Value.string who.2, Value.slice I is.length ci, Value.slice F fs.length cf, Value.int .i64 nx] 28))
  have hr6 := hr5.alloc (.cells #[Value.string who.1, Value.string who.2, Value.slice I is.length ci, Value.slice F fs.length cf, Value.int .i64 nx] 28)
  have hgw6 := only_alloc w (some g) hgw5 (.cells #[Value.string who.1, Value.string who.2, Value.slice I is.length ci, Value.slice F fs.length cf, Value.int .i64 nx] 28)
  have HNI : Hid (blk I = none ∨ blk I ≠ some w5.heap.size) := Lib.hid (by
    cases hb : blk I with
    | none => exact .inl rfl
    | some b => exact .inr (fun e => by injection e with e; have := (Own.lt oI5 hb).2; omega))
  have HNF : Hid (blk F = none ∨ blk F ≠ some w5.heap.size) := Lib.hid (by
    cases hb : blk F with
    | none => exact .inl rfl
    | some b => exact .inr (fun e => by injection e with e; have := (Own.lt oF5 hb).2; omega))
  have hz6 : w5.heap.size < (w5.alloc (.cells #[Value.string who.1, Value.string who.2, Value.slice I is.length ci, Value.slice F fs.length cf, Value.int .i64 nx] 28)).heap.size := by simp
  go_wp2_with fail
  clear hyz hcx
  generalize (w5.alloc (.cells #[Value.string who.1, Value.string who.2, Value.slice I is.length ci, Value.slice F fs.length cf, Value.int .i64 nx] 28)) = w6 at *
  clear oR5 oI5 oF5 hr5 hgw5
  refine (odd_any g _ _ _ hr6 (by omega) hn hn2).mono ?_
  rintro e w7 ⟨q, rfl, hr7, hg7⟩
  have o7 := keptB o6 hg7 (by omega)
  have oR7 := keptB oR6 hg7 hlt
  have oI7 := keptI oI6 hg7 (by omega)
  have oF7 := keptH oF6 hg7 (by omega)
  have hgw7 := hgw6.trans hg7
  have hs7 := hg7.size
  clear o6 oR6 oI6 oF6 hr6 hgw6 hg7
  cases q
  · skip
    have k0 : _ = some (Value.string who.1) := o7.cell (b := w5.heap.size) rfl (j := 0) (by omega)
    have kf0 := o7.frozen (b := w5.heap.size) rfl 0
    have k1 : _ = some (Value.string who.2) := o7.cell (b := w5.heap.size) rfl (j := 1) (by omega)
    have kf1 := o7.frozen (b := w5.heap.size) rfl 1
    have k2 : _ = some (Value.slice I is.length ci) := o7.cell (b := w5.heap.size) rfl (j := 2) (by omega)
    have kf2 := o7.frozen (b := w5.heap.size) rfl 2
    have k3 : _ = some (Value.slice F fs.length cf) := o7.cell (b := w5.heap.size) rfl (j := 3) (by omega)
    have kf3 := o7.frozen (b := w5.heap.size) rfl 3
    have k4 : _ = some (Value.int .i64 nx) := o7.cell (b := w5.heap.size) rfl (j := 4) (by omega)
    have kf4 := o7.frozen (b := w5.heap.size) rfl 4
    have r0 : _ = some (Value.string { data := #[] }) := oR7.cell (b := w.heap.size) rfl (j := 0) (by omega)
    have rf0 := oR7.frozen (b := w.heap.size) rfl 0
    have r1 : _ = some (Value.string { data := #[] }) := oR7.cell (b := w.heap.size) rfl (j := 1) (by omega)
    have rf1 := oR7.frozen (b := w.heap.size) rfl 1
    have r2 : _ = some (Value.slice none 0 0) := oR7.cell (b := w.heap.size) rfl (j := 2) (by omega)
    have rf2 := oR7.frozen (b := w.heap.size) rfl 2
    have r3 : _ = some (Value.slice none 0 0) := oR7.cell (b := w.heap.size) rfl (j := 3) (by omega)
    have rf3 := oR7.frozen (b := w.heap.size) rfl 3
    have r4 : _ = some (Value.int .i64 0) := oR7.cell (b := w.heap.size) rfl (j := 4) (by omega)
    have rf4 := oR7.frozen (b := w.heap.size) rfl 4
    have hbF : Below w.heap.size w7 (((((w7.setCell ⟨w.heap.size, 0, none⟩ (Value.string who.1)).setCell ⟨w.heap.size, 1, none⟩ (Value.string who.2)).setCell ⟨w.heap.size, 2, none⟩ (Value.slice I is.length ci)).setCell ⟨w.heap.size, 3, none⟩ (Value.slice F fs.length cf)).setCell ⟨w.heap.size, 4, none⟩ (Value.int .i64 nx)) := ((((((Below.refl w.heap.size w7).setCell (p := ⟨w.heap.size, 0, none⟩) (Nat.le_refl _) (Value.string who.1)).setCell (p := ⟨w.heap.size, 1, none⟩) (Nat.le_refl _) (Value.string who.2)).setCell (p := ⟨w.heap.size, 2, none⟩) (Nat.le_refl _) (Value.slice I is.length ci)).setCell (p := ⟨w.heap.size, 3, none⟩) (Nat.le_refl _) (Value.slice F fs.length cf)).setCell (p := ⟨w.heap.size, 4, none⟩) (Nat.le_refl _) (Value.int .i64 nx))
    have hgF := Lib.hid (only_below hgw7 hbF (Nat.le_refl _))
    have hrF := Lib.hid (hr7.below hbF hlt)
    have G1 := Own.more (base' := w.heap.size) (own_set (own_set (own_set (own_set (own_set oI7 w.heap.size 0 (Value.string who.1) (by omega)) w.heap.size 1 (Value.string who.2) (by omega)) w.heap.size 2 (Value.slice I is.length ci) (by omega)) w.heap.size 3 (Value.slice F fs.length cf) (by omega)) w.heap.size 4 (Value.int .i64 nx) (by omega)) (by omega)
    have G2 := Own.more (base' := w.heap.size) (own_set (own_set (own_set (own_set (own_set oF7 w.heap.size 0 (Value.string who.1) (by omega)) w.heap.size 1 (Value.string who.2) (by omega)) w.heap.size 2 (Value.slice I is.length ci) (by omega)) w.heap.size 3 (Value.slice F fs.length cf) (by omega)) w.heap.size 4 (Value.int .i64 nx) (by omega)) (by omega)
    clear hbF oI7 oF7 o7 oR7
    go_wp2_with fail
    exact bodyPost_ret (v := .agg #[.string who.1, .string who.2, .slice I is.length ci, .slice F fs.length cf, .int .i64 nx]) (by simp [results, Try.results12, go_sem, r0, r1, r2, r3, r4, rf0, rf1, rf2, rf3, rf4]) rfl ⟨who, I, ci, is, F, cf, fs, nx, rfl, ⟨hw0, hw1⟩, ⟨hil, HIZ.out⟩, ⟨hfl, HFZ.out⟩, ⟨hnx0, hnx1⟩, G1, G2, hrF.out.more (by omega), hgF.out⟩
  · go_wp2_with fail
    refine (pick_any g _ _ _ hr7 (by omega)).mono ?_
    rintro e w8 ⟨c, rfl, hc0, hc1, hr8, hg8⟩
    have o8 := keptB o7 hg8 (by omega)
    have oR8 := keptB oR7 hg8 hlt
    have oI8 := keptI oI7 hg8 (by omega)
    have oF8 := keptH oF7 hg8 (by omega)
    have hgw8 := hgw7.trans hg8
    have hs8 := hg8.size
    clear o7 oR7 oI7 oF7 hr7 hgw7 hg8
    rcases (by omega : c = 0 ∨ c = 1 ∨ c = 2 ∨ c = 3) with rfl | rfl | rfl | rfl
    · skip
      have neI : blk I = none ∨ blk I ≠ some w5.heap.size := HNI.out
      have neF : blk F = none ∨ blk F ≠ some w5.heap.size := HNF.out
      have k0 : _ = some (Value.string who.1) := o8.cell (b := w5.heap.size) rfl (j := 0) (by omega)
      have kf0 := o8.frozen (b := w5.heap.size) rfl 0
      have k1 : _ = some (Value.string who.2) := o8.cell (b := w5.heap.size) rfl (j := 1) (by omega)
      have kf1 := o8.frozen (b := w5.heap.size) rfl 1
      have k2 : _ = some (Value.slice I is.length ci) := o8.cell (b := w5.heap.size) rfl (j := 2) (by omega)
      have kf2 := o8.frozen (b := w5.heap.size) rfl 2
      have k3 : _ = some (Value.slice F fs.length cf) := o8.cell (b := w5.heap.size) rfl (j := 3) (by omega)
      have kf3 := o8.frozen (b := w5.heap.size) rfl 3
      have k4 : _ = some (Value.int .i64 nx) := o8.cell (b := w5.heap.size) rfl (j := 4) (by omega)
      have kf4 := o8.frozen (b := w5.heap.size) rfl 4
      have r0 : _ = some (Value.string { data := #[] }) := oR8.cell (b := w.heap.size) rfl (j := 0) (by omega)
      have rf0 := oR8.frozen (b := w.heap.size) rfl 0
      have r1 : _ = some (Value.string { data := #[] }) := oR8.cell (b := w.heap.size) rfl (j := 1) (by omega)
      have rf1 := oR8.frozen (b := w.heap.size) rfl 1
      have r2 : _ = some (Value.slice none 0 0) := oR8.cell (b := w.heap.size) rfl (j := 2) (by omega)
      have rf2 := oR8.frozen (b := w.heap.size) rfl 2
      have r3 : _ = some (Value.slice none 0 0) := oR8.cell (b := w.heap.size) rfl (j := 3) (by omega)
      have rf3 := oR8.frozen (b := w.heap.size) rfl 3
      have r4 : _ = some (Value.int .i64 0) := oR8.cell (b := w.heap.size) rfl (j := 4) (by omega)
      have rf4 := oR8.frozen (b := w.heap.size) rfl 4
      have hbF : Below w.heap.size w8 (((((((w8.setCell ⟨w5.heap.size, 0, none⟩ (Value.string { data := #[] })).setCell ⟨w5.heap.size, 1, none⟩ (Value.string { data := #[] })).setCell ⟨w.heap.size, 0, none⟩ (Value.string { data := #[] })).setCell ⟨w.heap.size, 1, none⟩ (Value.string { data := #[] })).setCell ⟨w.heap.size, 2, none⟩ (Value.slice I is.length ci)).setCell ⟨w.heap.size, 3, none⟩ (Value.slice F fs.length cf)).setCell ⟨w.heap.size, 4, none⟩ (Value.int .i64 nx)) := ((((((((Below.refl w.heap.size w8).setCell (p := ⟨w5.heap.size, 0, none⟩) (by show w.heap.size ≤ w5.heap.size; omega) (Value.string { data := #[] })).setCell (p := ⟨w5.heap.size, 1, none⟩) (by show w.heap.size ≤ w5.heap.size; omega) (Value.string { data := #[] })).setCell (p := ⟨w.heap.size, 0, none⟩) (Nat.le_refl _) (Value.string { data := #[] })).setCell (p := ⟨w.heap.size, 1, none⟩) (Nat.le_refl _) (Value.string { data := #[] })).setCell (p := ⟨w.heap.size, 2, none⟩) (Nat.le_refl _) (Value.slice I is.length ci)).setCell (p := ⟨w.heap.size, 3, none⟩) (Nat.le_refl _) (Value.slice F fs.length cf)).setCell (p := ⟨w.heap.size, 4, none⟩) (Nat.le_refl _) (Value.int .i64 nx))
      have hgF := Lib.hid (only_below hgw8 hbF (Nat.le_refl _))
      have hrF := Lib.hid (hr8.below hbF hlt)
      have G1 := Own.more (base' := w.heap.size) (own_set (own_set (own_set (own_set (own_set (Own.kept (Own.kept oI8 (set_grown _ w5.heap.size 0 (Value.string { data := #[] })) neI) (set_grown _ w5.heap.size 1 (Value.string { data := #[] })) neI) w.heap.size 0 (Value.string { data := #[] }) (by omega)) w.heap.size 1 (Value.string { data := #[] }) (by omega)) w.heap.size 2 (Value.slice I is.length ci) (by omega)) w.heap.size 3 (Value.slice F fs.length cf) (by omega)) w.heap.size 4 (Value.int .i64 nx) (by omega)) (by omega)
      have G2 := Own.more (base' := w.heap.size) (own_set (own_set (own_set (own_set (own_set (Own.kept (Own.kept oF8 (set_grown _ w5.heap.size 0 (Value.string { data := #[] })) neF) (set_grown _ w5.heap.size 1 (Value.string { data := #[] })) neF) w.heap.size 0 (Value.string { data := #[] }) (by omega)) w.heap.size 1 (Value.string { data := #[] }) (by omega)) w.heap.size 2 (Value.slice I is.length ci) (by omega)) w.heap.size 3 (Value.slice F fs.length cf) (by omega)) w.heap.size 4 (Value.int .i64 nx) (by omega)) (by omega)
      clear hbF oI8 oF8 o8 oR8
      go_wp2_with fail
      exact bodyPost_ret (v := .agg #[.string (({ data := #[] }, { data := #[] }) : ElHandle).1, .string (({ data := #[] }, { data := #[] }) : ElHandle).2, .slice I is.length ci, .slice F fs.length cf, .int .i64 nx]) (by simp [results, Try.results12, go_sem, r0, r1, r2, r3, r4, rf0, rf1, rf2, rf3, rf4]) rfl ⟨(({ data := #[] }, { data := #[] }) : ElHandle), I, ci, is, F, cf, fs, nx, rfl, ⟨by decide, by decide⟩, ⟨hil, HIZ.out⟩, ⟨hfl, HFZ.out⟩, ⟨hnx0, hnx1⟩, G1, G2, hrF.out.more (by omega), hgF.out⟩
    · go_wp2_with fail
      refine (l20Feed_any g _ _ _ hr8 (by omega) (by omega) (by omega)).mono ?_
      rintro e w9 ⟨I2, ci2, is2, rfl, hil2, hiz2, oI2, hr9, hg9⟩
      have HIZ2 := Lib.hid hiz2
      clear hiz2
      have o9 := keptB o8 hg9 (by omega)
      have oR9 := keptB oR8 hg9 hlt
      have oF9 := keptH oF8 hg9 (by omega)
      have hgw9 := hgw8.trans hg9
      have hs9 := hg9.size
      have oI9 := Own.more (base' := w.heap.size + 1) oI2 (by omega)
      have neF : blk F = none ∨ blk F ≠ some w5.heap.size := HNF.out
      have neI : blk I2 = none ∨ blk I2 ≠ some w5.heap.size := by
        cases hb : blk I2 with
        | none => exact .inl rfl
        | some b => exact .inr (fun e => by injection e with e; have := (Own.lt oI2 hb).1; omega)
      clear o8 oR8 oI8 oF8 hr8 hgw8 hg9 oI2
      have k0 : _ = some (Value.string who.1) := o9.cell (b := w5.heap.size) rfl (j := 0) (by omega)
      have kf0 := o9.frozen (b := w5.heap.size) rfl 0
      have k1 : _ = some (Value.string who.2) := o9.cell (b := w5.heap.size) rfl (j := 1) (by omega)
      have kf1 := o9.frozen (b := w5.heap.size) rfl 1
      have k2 : _ = some (Value.slice I is.length ci) := o9.cell (b := w5.heap.size) rfl (j := 2) (by omega)
      have kf2 := o9.frozen (b := w5.heap.size) rfl 2
      have k3 : _ = some (Value.slice F fs.length cf) := o9.cell (b := w5.heap.size) rfl (j := 3) (by omega)
      have kf3 := o9.frozen (b := w5.heap.size) rfl 3
      have k4 : _ = some (Value.int .i64 nx) := o9.cell (b := w5.heap.size) rfl (j := 4) (by omega)
      have kf4 := o9.frozen (b := w5.heap.size) rfl 4
      have r0 : _ = some (Value.string { data := #[] }) := oR9.cell (b := w.heap.size) rfl (j := 0) (by omega)
      have rf0 := oR9.frozen (b := w.heap.size) rfl 0
      have r1 : _ = some (Value.string { data := #[] }) := oR9.cell (b := w.heap.size) rfl (j := 1) (by omega)
      have rf1 := oR9.frozen (b := w.heap.size) rfl 1
      have r2 : _ = some (Value.slice none 0 0) := oR9.cell (b := w.heap.size) rfl (j := 2) (by omega)
      have rf2 := oR9.frozen (b := w.heap.size) rfl 2
      have r3 : _ = some (Value.slice none 0 0) := oR9.cell (b := w.heap.size) rfl (j := 3) (by omega)
      have rf3 := oR9.frozen (b := w.heap.size) rfl 3
      have r4 : _ = some (Value.int .i64 0) := oR9.cell (b := w.heap.size) rfl (j := 4) (by omega)
      have rf4 := oR9.frozen (b := w.heap.size) rfl 4
      have hbF : Below w.heap.size w9 ((((((w9.setCell ⟨w5.heap.size, 2, none⟩ (Value.slice I2 is2.length ci2)).setCell ⟨w.heap.size, 0, none⟩ (Value.string who.1)).setCell ⟨w.heap.size, 1, none⟩ (Value.string who.2)).setCell ⟨w.heap.size, 2, none⟩ (Value.slice I2 is2.length ci2)).setCell ⟨w.heap.size, 3, none⟩ (Value.slice F fs.length cf)).setCell ⟨w.heap.size, 4, none⟩ (Value.int .i64 nx)) := (((((((Below.refl w.heap.size w9).setCell (p := ⟨w5.heap.size, 2, none⟩) (by show w.heap.size ≤ w5.heap.size; omega) (Value.slice I2 is2.length ci2)).setCell (p := ⟨w.heap.size, 0, none⟩) (Nat.le_refl _) (Value.string who.1)).setCell (p := ⟨w.heap.size, 1, none⟩) (Nat.le_refl _) (Value.string who.2)).setCell (p := ⟨w.heap.size, 2, none⟩) (Nat.le_refl _) (Value.slice I2 is2.length ci2)).setCell (p := ⟨w.heap.size, 3, none⟩) (Nat.le_refl _) (Value.slice F fs.length cf)).setCell (p := ⟨w.heap.size, 4, none⟩) (Nat.le_refl _) (Value.int .i64 nx))
      have hgF := Lib.hid (only_below hgw9 hbF (Nat.le_refl _))
      have hrF := Lib.hid (hr9.below hbF hlt)
      have G1 := Own.more (base' := w.heap.size) (own_set (own_set (own_set (own_set (own_set (Own.kept oI9 (set_grown _ w5.heap.size 2 (Value.slice I2 is2.length ci2)) neI) w.heap.size 0 (Value.string who.1) (by omega)) w.heap.size 1 (Value.string who.2) (by omega)) w.heap.size 2 (Value.slice I2 is2.length ci2) (by omega)) w.heap.size 3 (Value.slice F fs.length cf) (by omega)) w.heap.size 4 (Value.int .i64 nx) (by omega)) (by omega)
      have G2 := Own.more (base' := w.heap.size) (own_set (own_set (own_set (own_set (own_set (Own.kept oF9 (set_grown _ w5.heap.size 2 (Value.slice I2 is2.length ci2)) neF) w.heap.size 0 (Value.string who.1) (by omega)) w.heap.size 1 (Value.string who.2) (by omega)) w.heap.size 2 (Value.slice I2 is2.length ci2) (by omega)) w.heap.size 3 (Value.slice F fs.length cf) (by omega)) w.heap.size 4 (Value.int .i64 nx) (by omega)) (by omega)
      clear hbF oI9 oF9 o9 oR9
      go_wp2_with fail
      exact bodyPost_ret (v := .agg #[.string who.1, .string who.2, .slice I2 is2.length ci2, .slice F fs.length cf, .int .i64 nx]) (by simp [results, Try.results12, go_sem, r0, r1, r2, r3, r4, rf0, rf1, rf2, rf3, rf4]) rfl ⟨who, I2, ci2, is2, F, cf, fs, nx, rfl, ⟨hw0, hw1⟩, ⟨hil2, HIZ2.out⟩, ⟨hfl, HFZ.out⟩, ⟨hnx0, hnx1⟩, G1, G2, hrF.out.more (by omega), hgF.out⟩
    · go_wp2_with fail
      refine (l20Fans_any g _ _ _ hr8 (by omega) (by omega) (by omega)).mono ?_
      rintro e w9 ⟨F2, cf2, fs2, rfl, hfl2, hfz2, oF2, hr9, hg9⟩
      have HFZ2 := Lib.hid hfz2
      clear hfz2
      have o9 := keptB o8 hg9 (by omega)
      have oR9 := keptB oR8 hg9 hlt
      have oI9 := keptI oI8 hg9 (by omega)
      have hgw9 := hgw8.trans hg9
      have hs9 := hg9.size
      have oF9 := Own.more (base' := w.heap.size + 1) oF2 (by omega)
      have neI : blk I = none ∨ blk I ≠ some w5.heap.size := HNI.out
      have neF : blk F2 = none ∨ blk F2 ≠ some w5.heap.size := by
        cases hb : blk F2 with
        | none => exact .inl rfl
        | some b => exact .inr (fun e => by injection e with e; have := (Own.lt oF2 hb).1; omega)
      clear o8 oR8 oI8 oF8 hr8 hgw8 hg9 oF2
      have k0 : _ = some (Value.string who.1) := o9.cell (b := w5.heap.size) rfl (j := 0) (by omega)
      have kf0 := o9.frozen (b := w5.heap.size) rfl 0
      have k1 : _ = some (Value.string who.2) := o9.cell (b := w5.heap.size) rfl (j := 1) (by omega)
      have kf1 := o9.frozen (b := w5.heap.size) rfl 1
      have k2 : _ = some (Value.slice I is.length ci) := o9.cell (b := w5.heap.size) rfl (j := 2) (by omega)
      have kf2 := o9.frozen (b := w5.heap.size) rfl 2
      have k3 : _ = some (Value.slice F fs.length cf) := o9.cell (b := w5.heap.size) rfl (j := 3) (by omega)
      have kf3 := o9.frozen (b := w5.heap.size) rfl 3
      have k4 : _ = some (Value.int .i64 nx) := o9.cell (b := w5.heap.size) rfl (j := 4) (by omega)
      have kf4 := o9.frozen (b := w5.heap.size) rfl 4
      have r0 : _ = some (Value.string { data := #[] }) := oR9.cell (b := w.heap.size) rfl (j := 0) (by omega)
      have rf0 := oR9.frozen (b := w.heap.size) rfl 0
      have r1 : _ = some (Value.string { data := #[] }) := oR9.cell (b := w.heap.size) rfl (j := 1) (by omega)
      have rf1 := oR9.frozen (b := w.heap.size) rfl 1
      have r2 : _ = some (Value.slice none 0 0) := oR9.cell (b := w.heap.size) rfl (j := 2) (by omega)
      have rf2 := oR9.frozen (b := w.heap.size) rfl 2
      have r3 : _ = some (Value.slice none 0 0) := oR9.cell (b := w.heap.size) rfl (j := 3) (by omega)
      have rf3 := oR9.frozen (b := w.heap.size) rfl 3
      have r4 : _ = some (Value.int .i64 0) := oR9.cell (b := w.heap.size) rfl (j := 4) (by omega)
      have rf4 := oR9.frozen (b := w.heap.size) rfl 4
      have hbF : Below w.heap.size w9 ((((((w9.setCell ⟨w5.heap.size, 3, none⟩ (Value.slice F2 fs2.length cf2)).setCell ⟨w.heap.size, 0, none⟩ (Value.string who.1)).setCell ⟨w.heap.size, 1, none⟩ (Value.string who.2)).setCell ⟨w.heap.size, 2, none⟩ (Value.slice I is.length ci)).setCell ⟨w.heap.size, 3, none⟩ (Value.slice F2 fs2.length cf2)).setCell ⟨w.heap.size, 4, none⟩ (Value.int .i64 nx)) := (((((((Below.refl w.heap.size w9).setCell (p := ⟨w5.heap.size, 3, none⟩) (by show w.heap.size ≤ w5.heap.size; omega) (Value.slice F2 fs2.length cf2)).setCell (p := ⟨w.heap.size, 0, none⟩) (Nat.le_refl _) (Value.string who.1)).setCell (p := ⟨w.heap.size, 1, none⟩) (Nat.le_refl _) (Value.string who.2)).setCell (p := ⟨w.heap.size, 2, none⟩) (Nat.le_refl _) (Value.slice I is.length ci)).setCell (p := ⟨w.heap.size, 3, none⟩) (Nat.le_refl _) (Value.slice F2 fs2.length cf2)).setCell (p := ⟨w.heap.size, 4, none⟩) (Nat.le_refl _) (Value.int .i64 nx))
      have hgF := Lib.hid (only_below hgw9 hbF (Nat.le_refl _))
      have hrF := Lib.hid (hr9.below hbF hlt)
      have G1 := Own.more (base' := w.heap.size) (own_set (own_set (own_set (own_set (own_set (Own.kept oI9 (set_grown _ w5.heap.size 3 (Value.slice F2 fs2.length cf2)) neI) w.heap.size 0 (Value.string who.1) (by omega)) w.heap.size 1 (Value.string who.2) (by omega)) w.heap.size 2 (Value.slice I is.length ci) (by omega)) w.heap.size 3 (Value.slice F2 fs2.length cf2) (by omega)) w.heap.size 4 (Value.int .i64 nx) (by omega)) (by omega)
      have G2 := Own.more (base' := w.heap.size) (own_set (own_set (own_set (own_set (own_set (Own.kept oF9 (set_grown _ w5.heap.size 3 (Value.slice F2 fs2.length cf2)) neF) w.heap.size 0 (Value.string who.1) (by omega)) w.heap.size 1 (Value.string who.2) (by omega)) w.heap.size 2 (Value.slice I is.length ci) (by omega)) w.heap.size 3 (Value.slice F2 fs2.length cf2) (by omega)) w.heap.size 4 (Value.int .i64 nx) (by omega)) (by omega)
      clear hbF oI9 oF9 o9 oR9
      go_wp2_with fail
      exact bodyPost_ret (v := .agg #[.string who.1, .string who.2, .slice I is.length ci, .slice F2 fs2.length cf2, .int .i64 nx]) (by simp [results, Try.results12, go_sem, r0, r1, r2, r3, r4, rf0, rf1, rf2, rf3, rf4]) rfl ⟨who, I, ci, is, F2, cf2, fs2, nx, rfl, ⟨hw0, hw1⟩, ⟨hil, HIZ.out⟩, ⟨hfl2, HFZ2.out⟩, ⟨hnx0, hnx1⟩, G1, G2, hrF.out.more (by omega), hgF.out⟩
    · have hrT := hr8.alloc (.cells #[.int .i64 (-1), .int .i64 1000001] 3)
      have oT := Own.below o8 ((Below.refl _ _).alloc (Nat.le_refl _) (.cells #[.int .i64 (-1), .int .i64 1000001] 3))
      have oRT := Own.below oR8 ((Below.refl _ _).alloc (Nat.le_refl _) (.cells #[.int .i64 (-1), .int .i64 1000001] 3))
      have oIT := Own.below oI8 ((Below.refl _ _).alloc (Nat.le_refl _) (.cells #[.int .i64 (-1), .int .i64 1000001] 3))
      have oFT := Own.below oF8 ((Below.refl _ _).alloc (Nat.le_refl _) (.cells #[.int .i64 (-1), .int .i64 1000001] 3))
      have hgT := only_alloc w (some g) hgw8 (.cells #[.int .i64 (-1), .int .i64 1000001] 3)
      go_wp2_with fail
      refine (pick_any g _ _ _ hrT (by omega)).mono ?_
      rintro e w9 ⟨y3, rfl, hv0, hv1, hr9, hg9⟩
      obtain ⟨z3, rfl⟩ := Int.eq_ofNat_of_zero_le hv0
      have hz3 : z3 < 2 := by omega
      have htab := tab_cell hg9 (by omega)
      obtain ⟨nx2, hnn0, hnn1, hcy⟩ : ∃ nx : Int, -1 ≤ nx ∧ nx ≤ 1000001 ∧ w9.cell? ⟨w8.heap.size, z3, none⟩ = some (.int .i64 nx) := by
        rw [htab z3]
        match z3, hz3 with
        | 0, _ => exact ⟨-1, by omega, by omega, rfl⟩
        | 1, _ => exact ⟨1000001, by omega, by omega, rfl⟩
      have o9 := keptB oT hg9 (by omega)
      have oR9 := keptB oRT hg9 hlt
      have oI9 := keptI oIT hg9 (by omega)
      have oF9 := keptH oFT hg9 (by omega)
      have hgw9 := hgT.trans hg9
      have hs9 := hg9.size
      simp at hs9
      have hs9b : w8.heap.size ≤ w9.heap.size := by omega
      have neI : blk I = none ∨ blk I ≠ some w5.heap.size := HNI.out
      have neF : blk F = none ∨ blk F ≠ some w5.heap.size := HNF.out
      clear htab o8 oR8 oI8 oF8 hr8 hgw8 hg9 oT oRT oIT oFT hgT hrT
      have k0 : _ = some (Value.string who.1) := o9.cell (b := w5.heap.size) rfl (j := 0) (by omega)
      have kf0 := o9.frozen (b := w5.heap.size) rfl 0
      have k1 : _ = some (Value.string who.2) := o9.cell (b := w5.heap.size) rfl (j := 1) (by omega)
      have kf1 := o9.frozen (b := w5.heap.size) rfl 1
      have k2 : _ = some (Value.slice I is.length ci) := o9.cell (b := w5.heap.size) rfl (j := 2) (by omega)
      have kf2 := o9.frozen (b := w5.heap.size) rfl 2
      have k3 : _ = some (Value.slice F fs.length cf) := o9.cell (b := w5.heap.size) rfl (j := 3) (by omega)
      have kf3 := o9.frozen (b := w5.heap.size) rfl 3
      have k4 : _ = some (Value.int .i64 nx) := o9.cell (b := w5.heap.size) rfl (j := 4) (by omega)
      have kf4 := o9.frozen (b := w5.heap.size) rfl 4
      have r0 : _ = some (Value.string { data := #[] }) := oR9.cell (b := w.heap.size) rfl (j := 0) (by omega)
      have rf0 := oR9.frozen (b := w.heap.size) rfl 0
      have r1 : _ = some (Value.string { data := #[] }) := oR9.cell (b := w.heap.size) rfl (j := 1) (by omega)
      have rf1 := oR9.frozen (b := w.heap.size) rfl 1
      have r2 : _ = some (Value.slice none 0 0) := oR9.cell (b := w.heap.size) rfl (j := 2) (by omega)
      have rf2 := oR9.frozen (b := w.heap.size) rfl 2
      have r3 : _ = some (Value.slice none 0 0) := oR9.cell (b := w.heap.size) rfl (j := 3) (by omega)
      have rf3 := oR9.frozen (b := w.heap.size) rfl 3
      have r4 : _ = some (Value.int .i64 0) := oR9.cell (b := w.heap.size) rfl (j := 4) (by omega)
      have rf4 := oR9.frozen (b := w.heap.size) rfl 4
      have hbF : Below w.heap.size w9 ((((((w9.setCell ⟨w5.heap.size, 4, none⟩ (Value.int .i64 nx2)).setCell ⟨w.heap.size, 0, none⟩ (Value.string who.1)).setCell ⟨w.heap.size, 1, none⟩ (Value.string who.2)).setCell ⟨w.heap.size, 2, none⟩ (Value.slice I is.length ci)).setCell ⟨w.heap.size, 3, none⟩ (Value.slice F fs.length cf)).setCell ⟨w.heap.size, 4, none⟩ (Value.int .i64 nx2)) := (((((((Below.refl w.heap.size w9).setCell (p := ⟨w5.heap.size, 4, none⟩) (by show w.heap.size ≤ w5.heap.size; omega) (Value.int .i64 nx2)).setCell (p := ⟨w.heap.size, 0, none⟩) (Nat.le_refl _) (Value.string who.1)).setCell (p := ⟨w.heap.size, 1, none⟩) (Nat.le_refl _) (Value.string who.2)).setCell (p := ⟨w.heap.size, 2, none⟩) (Nat.le_refl _) (Value.slice I is.length ci)).setCell (p := ⟨w.heap.size, 3, none⟩) (Nat.le_refl _) (Value.slice F fs.length cf)).setCell (p := ⟨w.heap.size, 4, none⟩) (Nat.le_refl _) (Value.int .i64 nx2))
      have hgF := Lib.hid (only_below hgw9 hbF (Nat.le_refl _))
      have hrF := Lib.hid (hr9.below hbF hlt)
      have G1 := Own.more (base' := w.heap.size) (own_set (own_set (own_set (own_set (own_set (Own.kept oI9 (set_grown _ w5.heap.size 4 (Value.int .i64 nx2)) neI) w.heap.size 0 (Value.string who.1) (by omega)) w.heap.size 1 (Value.string who.2) (by omega)) w.heap.size 2 (Value.slice I is.length ci) (by omega)) w.heap.size 3 (Value.slice F fs.length cf) (by omega)) w.heap.size 4 (Value.int .i64 nx2) (by omega)) (by omega)
      have G2 := Own.more (base' := w.heap.size) (own_set (own_set (own_set (own_set (own_set (Own.kept oF9 (set_grown _ w5.heap.size 4 (Value.int .i64 nx2)) neF) w.heap.size 0 (Value.string who.1) (by omega)) w.heap.size 1 (Value.string who.2) (by omega)) w.heap.size 2 (Value.slice I is.length ci) (by omega)) w.heap.size 3 (Value.slice F fs.length cf) (by omega)) w.heap.size 4 (Value.int .i64 nx2) (by omega)) (by omega)
      clear hbF oI9 oF9 o9 oR9
      go_wp2_with fail
      exact bodyPost_ret (v := .agg #[.string who.1, .string who.2, .slice I is.length ci, .slice F fs.length cf, .int .i64 nx2]) (by simp [results, Try.results12, go_sem, r0, r1, r2, r3, r4, rf0, rf1, rf2, rf3, rf4]) rfl ⟨who, I, ci, is, F, cf, fs, nx2, rfl, ⟨hw0, hw1⟩, ⟨hil, HIZ.out⟩, ⟨hfl, HFZ.out⟩, ⟨hnn0, hnn1⟩, G1, G2, hrF.out.more (by omega), hgF.out⟩
end Go.Proofs.Ytfnmlffpnmmcdaa
