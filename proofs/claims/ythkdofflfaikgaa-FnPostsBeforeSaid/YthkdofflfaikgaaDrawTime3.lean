import Derived.Test.YthkdofflfaikgaaDrawTime2
import Derived.Deep.RegionWith
import Derived.Deep.DeepMust
namespace Go.Proofs.Ythkdofflfaikgaa
open Go.RowKit
/-- The second table's numbers. -/
def tv2 (z : Nat) : Nat := if z < 4 then 0 else z - 3
theorem OwnE.allocd {α : Type} [Inhabited α] {sz e base cap : Nat} {enc : α → Nat → Value} {w : World} {A : Option Addr} {xs : List α} (h : OwnE sz enc e w base A cap xs) (o : Obj) : OwnE sz enc e (w.alloc o) base A cap xs := Own.below h ((Below.refl _ _).alloc (Nat.le_refl _) o)
theorem below_allocd {a w : World} (h : Below a.heap.size a w) (o : Obj) : Below a.heap.size a (w.alloc o) := h.alloc h.size o
theorem far_rule {W w5 : World} {g : Nat} (hg : W.grownBy w5 (some g)) : ∀ b o, b < W.heap.size → ¬ b = g → w5.cell? ⟨b, o, none⟩ = W.cell? ⟨b, o, none⟩ := fun b o h1 h2 => hg.cell_far _ h1 (fun e => h2 (Option.some.inj e))
theorem get_of {l : List Value} {i : Nat} {v : Value} (h : l[i]? = some v) (hi : i < l.length) : l[i]'hi = v := by rw [List.getElem?_eq_getElem hi] at h; exact Option.some.inj h
theorem tab7 (z : Nat) (h : z < 7) : ([Value.int .i64 0, .int .i64 0, .int .i64 0, .int .i64 0, .int .i64 1, .int .i64 2, .int .i64 3] : List Value)[z]? = some (.int .i64 (tv2 z)) := by
  match z, h with
  | 0, _ => rfl
  | 1, _ => rfl
  | 2, _ => rfl
  | 3, _ => rfl
  | 4, _ => rfl
  | 5, _ => rfl
  | 6, _ => rfl
theorem tv2_lt {z : Nat} (h : z < 7) : (tv2 z : Int) < 4 := by unfold tv2; split <;> omega
def tv1 (v : Int) (k : Nat) : Int := if k = 0 then v else if k = 1 then 40 else if k = 2 then 41 else -1
theorem tab4 (z : Nat) (h : z < 7) : ∀ v : Int, ([Value.int .i64 v, .int .i64 40, .int .i64 41, .int .i64 (-1)] : List Value)[tv2 z]? = some (.int .i64 (tv1 v (tv2 z))) := fun v => by
  match z, h with
  | 0, _ => rfl
  | 1, _ => rfl
  | 2, _ => rfl
  | 3, _ => rfl
  | 4, _ => rfl
  | 5, _ => rfl
  | 6, _ => rfl
def DrawnPI (w : World) (e : Ending) (w' : World) : Prop := ∃ (A : Option Addr) (cap : Nat) (xs : List ElPost) (when many : Int), e = .returned (.tuple #[.slice A xs.length cap, .int .i64 when, .int .i64 many]) ∧ xs.length ≤ 42 ∧ OwnE 2 encPost 33 w' w.heap.size A cap xs ∧ Below w.heap.size w w'
set_option maxHeartbeats 1600000 in
theorem DrawPostsBefore_any (A : Option Addr) (cap B : Nat) (cs : List Int) (w : World) (h : RdU w B A cs) (hB : B ≤ w.heap.size) (hb : ∀ j, 0 ≤ PP.at_ cs j ∧ PP.at_ cs j ≤ 255) (hc : cs.length ≤ cap) (hl : cs.length ≤ 1048576) :
    Calls Try.prog 27 #[.slice A cs.length cap] w (DrawnPI w) := by
  go_enter Try.func27, Try.ntmps27
  go_wp2_with fail
  refine (l20Open_any A cap B cs w h hB hb hc hl).mono ?_
  rintro e w1 ⟨rfl, hr1, hb1⟩
  have hlt := hr1.lt
  have hs1 := hb1.size
  go_wp2_with fail
  refine (l20Timeline_any _ 0 _ _ hr1 (by omega) (by omega) (by omega)).mono ?_
  rintro e w2 ⟨T, cap', xs, rfl, hx, hown, hr2, hg2⟩
  go_wp2_with fail
  refine (pick_any _ _ _ _ hr2 (by omega)).mono ?_
  rintro e w3 ⟨u, rfl, hu0, hu1, hr3, hg3⟩
  have hub : u ≤ 7 := by omega
  have hown3 := hown.keptG hg3 hlt
  have hb3 := below_of_only (below_of_only hb1 hg2 (Nat.le_refl _)) hg3 (Nat.le_refl _)
  have hz3 : w1.heap.size ≤ w3.heap.size := Nat.le_trans hg2.size hg3.size
  clear hown hr2 hg2 hg3 hr1 hb1
  have n0 : ¬ w3.heap.size = w.heap.size := by omega
  have n1 : ¬ w3.heap.size + 1 = w.heap.size := by omega
  go_wp2_with fail
  have hr4 : Rdr w3.drew w.heap.size (0 + 60 + 1) := hr3
  have hownd : OwnE 2 encPost 33 w3.drew w1.heap.size T cap' xs := hown3
  have hbd : Below w.heap.size w w3.drew := hb3.drew
  clear hown3 hb3
  go_region_with (go_at_call 41; go_must (refine (pick_any w.heap.size _ _ _ (by first | assumption | exact Rdr.alloc (by assumption) _ | exact Rdr.alloc (Rdr.alloc (by assumption) _) _) (by omega)).mono ?_; rintro e w5 ⟨x, rfl, hx0, hx1, hr5, hg5⟩; obtain ⟨z, rfl⟩ := Int.eq_ofNat_of_zero_le hx0; have hz7 : z < 7 := (by omega); have hcl := far_rule hg5; have ht2 := tab7 z hz7; have z0 : (0 : Int) ≤ (z : Int) := Int.natCast_nonneg _; have z1 : (z : Int) < 7 := (by omega); have y0 : (0 : Int) ≤ (tv2 z : Int) := Int.natCast_nonneg _; have y1 : (tv2 z : Int) < 4 := tv2_lt hz7; have y2 : tv2 z < 4 := (by have := tv2_lt hz7; omega); have ht1 := tab4 z hz7; have gt2 := fun h => get_of (tab7 z hz7) h; have gt1 := fun v h => get_of (tab4 z hz7 v) h; have hz5 : w1.heap.size ≤ w5.heap.size := Nat.le_trans (by first | exact hz3 | omega | (simp; done) | (simp; omega)) hg5.size; have n5 : ¬ w5.heap.size = w.heap.size := (by omega); have n6 : ¬ w5.heap.size + 1 = w.heap.size := (by omega); have hs5 := hg5.size; (try simp at hs5); (try have q5 := Nat.lt_of_succ_le hs5); have hown5 : OwnE 2 encPost 33 w5 w1.heap.size T cap' xs := OwnE.keptG (by first | assumption | exact OwnE.allocd (by assumption) _ | exact OwnE.allocd (OwnE.allocd (by assumption) _) _) hg5 hlt; have hbl5 : Below w.heap.size w w5 := below_of_only (by first | assumption | exact below_allocd (by assumption) _ | exact below_allocd (below_allocd (by assumption) _) _) hg5 (Nat.le_refl _); (try have q3 : w3.heap.size < w5.heap.size := (by omega)); (try have q4 : w3.heap.size + 1 < w5.heap.size := (by omega))))
  all_goals
    first | (go_wp2_with fail; go_ret3) | (refine (by assumption : ∀ (a : Act) (w_1 : World), Code.wp _ Code.ret _ a w_1 → _) _ _ ?_; go_wp2_with fail; go_ret3) | (refine (by assumption : ∀ (a : Act) (w_1 : World), Code.wp _ Code.ret _ a w_1 → _) _ _ ?_; rw [Code.wp]; go_ret3)
    exact ⟨T, cap', xs, u - 1, _, rfl, hx, by first | exact Own.more hown5 hs1 | exact Own.more (OwnE.allocd hown5 _) hs1 | exact Own.more (OwnE.allocd (OwnE.allocd hown5 _) _) hs1, by first | exact hbl5 | exact below_allocd hbl5 _ | exact below_allocd (below_allocd hbl5 _) _⟩
end Go.Proofs.Ythkdofflfaikgaa
