import Derived.Test.YthkdofflfaikgaaDrawTime
namespace Go.Proofs.Ythkdofflfaikgaa
open Go.RowKit
theorem grown_setCell (w : World) (g o : Nat) (v : Value) : w.grownBy (w.setCell ⟨g, o, none⟩ v) (some g) := ⟨rfl, rfl, rfl, by simp [World.setCell], fun i _ hi => Below.heap_setCell _ _ _ _ (fun e => hi (by rw [e]))⟩
def DrawnPP (w : World) (e : Ending) (w' : World) : Prop := ∃ (A : Option Addr) (cap : Nat) (xs : List ElPost) (A' : Option Addr) (cap' : Nat) (ys : List ElPost), e = .returned (.tuple #[.slice A xs.length cap, .slice A' ys.length cap']) ∧ xs.length ≤ 42 ∧ ys.length ≤ 42 ∧ OwnE 2 encPost 33 w' w.heap.size A cap xs ∧ OwnE 2 encPost 33 w' w.heap.size A' cap' ys ∧ Below w.heap.size w w'
theorem DrawMergeTimelines_any (A : Option Addr) (cap B : Nat) (cs : List Int) (w : World) (h : RdU w B A cs) (hB : B ≤ w.heap.size) (hb : ∀ j, 0 ≤ PP.at_ cs j ∧ PP.at_ cs j ≤ 255) (hc : cs.length ≤ cap) (hl : cs.length ≤ 1048576) :
    Calls Try.prog 30 #[.slice A cs.length cap] w (DrawnPP w) := by
  go_enter Try.func30, Try.ntmps30
  go_wp2_with fail
  refine (l20Open_any A cap B cs w h hB hb hc hl).mono ?_
  rintro e w1 ⟨rfl, hr1, hb1⟩
  have hs1 := hb1.size
  go_wp2_with fail
  refine (l20Timeline_any _ 0 _ _ hr1 (by omega) (by omega) (by omega)).mono ?_
  rintro e w2 ⟨T, cap', xs, rfl, hx, hown, hr2, hg2⟩
  have hs2 := hg2.size
  go_wp2_with fail
  refine (l20Timeline_any _ _ _ _ hr2 (by omega) (by omega) (by omega)).mono ?_
  rintro e w3 ⟨T3, cap3, ys, rfl, hy, hown3, hr3, hg3⟩
  have hlt := hr1.lt
  go_wp2_with fail
  go_ret2
  exact ⟨T, cap', xs, T3, cap3, ys, rfl, hx, hy, Own.more (hown.keptG hg3 hlt) hs1, Own.more hown3 (by omega), below_of_only (below_of_only hb1 hg2 (Nat.le_refl _)) hg3 (Nat.le_refl _)⟩
def DrawnPV (w : World) (e : Ending) (w' : World) : Prop := ∃ (A : Option Addr) (cap : Nat) (xs : List ElPost) (p : ElPost), e = .returned (.tuple #[.slice A xs.length cap, .agg #[.int .i64 p.1, .int .i64 p.2]]) ∧ xs.length ≤ 42 ∧ OwnE 2 encPost 33 w' w.heap.size A cap xs ∧ Below w.heap.size w w'
theorem DrawPutPost_any (A : Option Addr) (cap B : Nat) (cs : List Int) (w : World) (h : RdU w B A cs) (hB : B ≤ w.heap.size) (hb : ∀ j, 0 ≤ PP.at_ cs j ∧ PP.at_ cs j ≤ 255) (hc : cs.length ≤ cap) (hl : cs.length ≤ 1048576) :
    Calls Try.prog 29 #[.slice A cs.length cap] w (DrawnPV w) := by
  have hb0 : Below w.heap.size w (w.alloc (.cells #[.int .i64 0, .int .i64 0] 33)) := (Below.refl _ _).alloc (Nat.le_refl _) _
  have hz0 : (w.alloc (.cells #[.int .i64 0, .int .i64 0] 33)).heap.size = w.heap.size + 1 := by simp
  have p0 : (w.alloc (.cells #[.int .i64 0, .int .i64 0] 33)).cell? ⟨w.heap.size, 0, none⟩ = some (.int .i64 0) := by rw [World.cell?_alloc_at _ _ _ _ rfl]; rfl
  have p1 : (w.alloc (.cells #[.int .i64 0, .int .i64 0] 33)).cell? ⟨w.heap.size, 1, none⟩ = some (.int .i64 0) := by rw [World.cell?_alloc_at _ _ _ _ rfl]; rfl
  have q0 : (w.alloc (.cells #[.int .i64 0, .int .i64 0] 33)).frozen? ⟨w.heap.size, 0, none⟩ = false := by simp
  have q1 : (w.alloc (.cells #[.int .i64 0, .int .i64 0] 33)).frozen? ⟨w.heap.size, 1, none⟩ = false := by simp
  go_enter Try.func29, Try.ntmps29
  go_wp2_with fail
  generalize (w.alloc (.cells #[.int .i64 0, .int .i64 0] 33)) = wA at *
  have HZ := Lib.hid hz0
  clear hz0
  refine (l20Open_any A cap B cs wA (Rd.below h (hb0.mono hB)) (Nat.le_trans hB hb0.size) hb hc hl).mono ?_
  rintro e w1 ⟨rfl, hr1, hb1⟩
  have hs1 := hb1.size
  have hlt := hr1.lt
  go_wp2_with fail
  refine (l20Timeline_any _ 0 _ _ hr1 (by omega) (by omega) (by omega)).mono ?_
  rintro e w2 ⟨T, cap', xs, rfl, hx, hown, hr2, hg2⟩
  go_wp2_with fail
  refine (pick_any _ _ _ _ hr2 (by omega)).mono ?_
  rintro e w3 ⟨x, rfl, hx0, hx1, hr3, hg3⟩
  go_wp2_with fail
  refine (pick_any _ _ _ _ hr3 (by omega)).mono ?_
  rintro e w4 ⟨y, rfl, hy0, hy1, hr4, hg4⟩
  go_wp2_with fail
  refine (pick_any _ _ _ _ hr4 (by omega)).mono ?_
  rintro e w5 ⟨z, rfl, hz0', hz1, hr5, hg5⟩
  have hxb : x ≤ 6 := by omega
  have hyb : y ≤ 13 := by omega
  have hb5 := below_of_only (below_of_only (below_of_only (below_of_only hb1 hg2 (Nat.le_refl _)) hg3 (Nat.le_refl _)) hg4 (Nat.le_refl _)) hg5 (Nat.le_refl _)
  have hown5 := ((hown.keptG hg3 hlt).keptG hg4 hlt).keptG hg5 hlt
  have c0 := (hb5.cell (p := ⟨w.heap.size, 0, none⟩) (by show w.heap.size < wA.heap.size; rw [HZ.out]; omega)).trans p0
  have c1 := (hb5.cell (p := ⟨w.heap.size, 1, none⟩) (by show w.heap.size < wA.heap.size; rw [HZ.out]; omega)).trans p1
  have f0 := (hb5.frozen (p := ⟨w.heap.size, 0, none⟩) (by show w.heap.size < wA.heap.size; rw [HZ.out]; omega)).trans q0
  have f1 := (hb5.frozen (p := ⟨w.heap.size, 1, none⟩) (by show w.heap.size < wA.heap.size; rw [HZ.out]; omega)).trans q1
  clear hg2 hg3 hg4 hg5 hr2 hr3 hr4 hr5 p0 p1 q0 q1 hown
  go_wp2_with fail
  refine bodyPost_ret (v := .tuple #[.slice T xs.length cap', .agg #[.int .i64 (x - y / 13 * 9), .int .i64 z]]) (by simp [results, Try.results29, go_sem, c0, c1]) rfl ?_
  exact ⟨T, cap', xs, (x - y / 13 * 9, z), rfl, hx, Own.more ((hown5.keptG (grown_setCell _ _ _ _) (by have := HZ.out; omega)).keptG (grown_setCell _ _ _ _) (by have := HZ.out; omega)) (by have := HZ.out; omega), hb0.trans ((hb5.mono hb0.size).setCell (by simp) _ |>.setCell (by simp) _)⟩
end Go.Proofs.Ythkdofflfaikgaa
