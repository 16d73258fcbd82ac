import Derived.Test.YtggdfmkenmlbjaaDrawTombs
import Derived.Deep.RegionWith
import Derived.Deep.DeepCutAuto
namespace Go.Proofs.Ytggdfmkenmlbjaa
open Go.RowKit
theorem far_rule {W w5 : World} {g : Nat} (hg : W.grownBy w5 (some g)) : ∀ b o, b < W.heap.size → ¬ b = g → w5.cell? ⟨b, o, none⟩ = W.cell? ⟨b, o, none⟩ := fun _ _ h1 h2 => hg.cell_far _ h1 (fun e => h2 (Option.some.inj e))
theorem get_of {l : List Value} {i : Nat} {v : Value} (h : l[i]? = some v) (hi : i < l.length) : l[i]'hi = v := by rw [List.getElem?_eq_getElem hi] at h; exact Option.some.inj h
theorem SubE.allocd {α : Type} [Inhabited α] {sz e base cap : Nat} {enc : α → Nat → Value} {w : World} {A : Option Addr} {xs : List α} (h : SubE sz enc e w base A cap xs) (o : Obj) : SubE sz enc e (w.alloc o) base A cap xs := Sub.below h ((Below.refl _ _).alloc (Nat.le_refl _) o)
theorem below_allocd {a w : World} (h : Below a.heap.size a w) (o : Obj) : Below a.heap.size a (w.alloc o) := h.alloc h.size o
/-- The table's numbers and its keys. -/
def tv2 (z : Nat) : Nat := if z < 2 then 0 else if z < 4 then 1 else if z < 6 then 2 else 3
theorem tab7 (z : Nat) (h : z < 7) : ([Value.int .i64 0, Value.int .i64 0, Value.int .i64 1, Value.int .i64 1, Value.int .i64 2, Value.int .i64 2, Value.int .i64 3] : List Value)[z]? = some (.int .i64 (tv2 z)) := by
  match z, h with
  | 0, _ => rfl
  | 1, _ => rfl
  | 2, _ => rfl
  | 3, _ => rfl
  | 4, _ => rfl
  | 5, _ => rfl
  | 6, _ => rfl
theorem tv2_lt {z : Nat} (h : z < 7) : (tv2 z : Int) < 4 := by unfold tv2; split <;> (try split) <;> (try split) <;> omega
def tk (k : Nat) : ByteArray := if k = 0 then { data := #[107, 49] } else if k = 1 then { data := #[107, 50] } else if k = 2 then { data := #[110, 101, 119] } else { data := #[65] }
theorem tk_size (k : Nat) : (tk k).size ≤ 40 := by unfold tk; split <;> (try split) <;> (try split) <;> decide
theorem tab4 (z : Nat) (h : z < 7) : ([Value.string { data := #[107, 49] }, Value.string { data := #[107, 50] }, Value.string { data := #[110, 101, 119] }, Value.string { data := #[65] }] : List Value)[tv2 z]? = some (.string (tk (tv2 z))) := by
  match z, h with
  | 0, _ => rfl
  | 1, _ => rfl
  | 2, _ => rfl
  | 3, _ => rfl
  | 4, _ => rfl
  | 5, _ => rfl
  | 6, _ => rfl
def DrawnTB (w : World) (e : Ending) (w' : World) : Prop := ∃ (A : Option Addr) (cap : Nat) (xs : List ElTomb) (key : ByteArray) (when : Int), e = .returned (.tuple #[.slice A xs.length cap, .string key, .int .i64 when]) ∧ xs.length ≤ 9 ∧ (∀ k, k < xs.length → (gt xs k).1.size ≤ maxLen) ∧ key.size ≤ 40 ∧ SubE 2 encTomb 35 w' w.heap.size A cap xs ∧ Below w.heap.size w w'
set_option maxHeartbeats 1600000 in
theorem DrawBuryKey_any (A : Option Addr) (cap B : Nat) (cs : List Int) (w : World) (h : RdU w B A cs) (hB : B ≤ w.heap.size) (hb : ∀ j, 0 ≤ PP.at_ cs j ∧ PP.at_ cs j ≤ 255) (hc : cs.length ≤ cap) (hl : cs.length ≤ 1048576) :
    Calls Try.prog 21 #[.slice A cs.length cap] w (DrawnTB w) := by
  go_enter Try.func21, Try.ntmps21
  go_wp2_with fail
  refine (l20Open_any A cap B cs w h hB hb hc hl).mono ?_
  rintro e w1 ⟨rfl, hr1, hb1⟩
  have hlt := hr1.lt
  have hs1 := hb1.size
  go_wp2_with fail
  refine (l20Tombs_any _ 0 _ _ hr1 (by omega) (by omega) (by omega)).mono ?_
  rintro e w2 ⟨T, cap', xs, rfl, hx, hsz, hown, hr2, hg2⟩
  have HSZ := Lib.hid hsz
  clear hsz
  go_wp2_with fail
  refine (pick_any _ _ _ _ hr2 (by omega)).mono ?_
  rintro e w3 ⟨u, rfl, hu0, hu1, hr3, hg3⟩
  have hown3 := SubE.keptG hown hg3 hlt
  have hb3 := below_of_only (below_of_only hb1 hg2 (Nat.le_refl _)) hg3 (Nat.le_refl _)
  have hz3 : w1.heap.size ≤ w3.heap.size := Nat.le_trans hg2.size hg3.size
  clear hown hr2 hg2 hg3 hr1 hb1 hu0 hu1
  go_upto_if 16 with fail
  go_cut [7] (fun v wx => ∃ when : Int, v = .int .i64 when ∧ Rdr wx w.heap.size 100 ∧ SubE 2 encTomb 35 wx w1.heap.size T cap' xs ∧ Below w.heap.size w wx ∧ w1.heap.size ≤ wx.heap.size)
  case first =>
    by_cases h0 : 0 < xs.length
    · have d0 : decide (0 < (xs.length : Int)) = true := decide_eq_true (by omega)
      obtain ⟨b, off, rfl, hbb, hcell⟩ := (SubE.rd hown3).at_ h0
      have c1 : w3.cell? ⟨b, off + (xs.length - 1) * 2 + 1, none⟩ = some (Value.int .i64 (gt xs (xs.length - 1)).2) := hcell (xs.length - 1) 1 (by omega) (by omega)
      have hbw : w1.heap.size ≤ b := (Sub.lt hown3 rfl).1
      have nb : ¬ b = w.heap.size := by omega
      have hk1 : ((xs.length : Int) - 1).toNat = xs.length - 1 := by omega
      have hk2 : IntKind.i64.wrap ((xs.length : Int) - 1) = (xs.length : Int) - 1 := IntWalk.i64_in _ (by omega)
      have hk4 : (0 : Int) ≤ (xs.length : Int) - 1 := by omega
      have hk5 : (xs.length : Int) - 1 < (xs.length : Int) := by omega
      have hr4 : Rdr w3.drew w.heap.size (0 + 60 + 1) := hr3
      have hownd : SubE 2 encTomb 35 w3.drew w1.heap.size (some ⟨b, off, none⟩) cap' xs := hown3
      have hbd : Below w.heap.size w w3.drew := hb3.drew
      have hbbd : b < w3.drew.heap.size := hbb
      have c1d : w3.drew.cell? ⟨b, off + (xs.length - 1) * 2 + 1, none⟩ = some (Value.int .i64 (gt xs (xs.length - 1)).2) := c1
      have hz3d : w1.heap.size ≤ w3.drew.heap.size := hz3
      clear hown3 hb3 hcell h0 hr3
      go_wp2_with fail
      go_region_with (go_at_call 47; refine (pick_any w.heap.size _ _ _ (by assumption) (by omega)).mono ?_; rintro e w5 ⟨x, rfl, hx0, hx1, hr5, hg5⟩; have cw := (far_rule hg5 b (off + (xs.length - 1) * 2 + 1) (by assumption) nb).trans (by assumption); have hb5 : b < w5.heap.size := Nat.lt_of_lt_of_le (by assumption) hg5.size; have hz5 : w1.heap.size ≤ w5.heap.size := Nat.le_trans (by first | assumption | omega | (simp; done) | (simp; omega)) hg5.size; have hown5 : SubE 2 encTomb 35 w5 w1.heap.size (some ⟨b, off, none⟩) cap' xs := SubE.keptG (by assumption) hg5 hlt; have hbl5 : Below w.heap.size w w5 := below_of_only (by assumption) hg5 (Nat.le_refl _))
      all_goals
        go_wp2_with fail
        go_meet
        exact ⟨_, rfl, Rdr.more (by assumption) (by omega), by assumption, by assumption, by assumption⟩
    · have d0 : decide (0 < (xs.length : Int)) = false := decide_eq_false (by omega)
      go_wp2_with fail
      go_meet
      exact ⟨_, rfl, hr3.more (by omega), hown3, hb3, hz3⟩
  case rest =>
    obtain ⟨when, rfl, hr4, hownd, hbd, hz3⟩ := hcut
    clear hr3 hown3 hb3
    have n0 : ¬ wc.heap.size = w.heap.size := by omega
    have n1 : ¬ wc.heap.size + 1 = w.heap.size := by omega
    have hr4d : Rdr wc.drew w.heap.size 100 := hr4
    have hownd2 : SubE 2 encTomb 35 wc.drew w1.heap.size T cap' xs := hownd
    have hbd2 : Below w.heap.size w wc.drew := hbd.drew
    clear hr4 hownd hbd
    go_wp2_with fail
    go_region_with (go_at_call 47; refine (pick_any w.heap.size _ _ _ (by first | assumption | exact Rdr.alloc (by assumption) _ | exact Rdr.alloc (Rdr.alloc (by assumption) _) _) (by omega)).mono ?_; rintro e w5 ⟨x, rfl, hx0, hx1, hr5, hg5⟩; obtain ⟨z, rfl⟩ := Int.eq_ofNat_of_zero_le hx0; have hz7 : z < 7 := (by omega); have hcl := far_rule hg5; have ht2 := tab7 z hz7; have z0 : (0 : Int) ≤ (z : Int) := Int.natCast_nonneg _; have z1 : (z : Int) < 7 := (by omega); have y0 : (0 : Int) ≤ (tv2 z : Int) := Int.natCast_nonneg _; have y1 : (tv2 z : Int) < 4 := tv2_lt hz7; have y2 : tv2 z < 4 := (by have := tv2_lt hz7; omega); have ht1 := tab4 z hz7; have gt2 := fun h => get_of (tab7 z hz7) h; have gt1 := fun h => get_of (tab4 z hz7) h; have hz5 : w1.heap.size ≤ w5.heap.size := Nat.le_trans (by first | exact hz3 | omega | (simp; done) | (simp; omega)) hg5.size; have n5 : ¬ w5.heap.size = w.heap.size := (by omega); have n6 : ¬ w5.heap.size + 1 = w.heap.size := (by omega); have hs5 := hg5.size; (try simp at hs5); (try have q5 := Nat.lt_of_succ_le hs5); have hown5 : SubE 2 encTomb 35 w5 w1.heap.size T cap' xs := SubE.keptG (by first | assumption | exact SubE.allocd (by assumption) _ | exact SubE.allocd (SubE.allocd (by assumption) _) _) hg5 hlt; have hbl5 : Below w.heap.size w w5 := below_of_only (by first | assumption | exact below_allocd (by assumption) _ | exact below_allocd (below_allocd (by assumption) _) _) hg5 (Nat.le_refl _); (try have q3 : wc.heap.size < w5.heap.size := (by omega)); (try have q4 : wc.heap.size + 1 < w5.heap.size := (by omega)))
    all_goals
      go_wp2_with fail
      go_ret3
      exact ⟨T, cap', xs, tk (tv2 _), when, rfl, hx, HSZ.out, tk_size _, by first | exact Sub.more hown5 hs1 | exact Sub.more (SubE.allocd hown5 _) hs1 | exact Sub.more (SubE.allocd (SubE.allocd hown5 _) _) hs1, by first | exact hbl5 | exact below_allocd hbl5 _ | exact below_allocd (below_allocd hbl5 _) _⟩
end Go.Proofs.Ytggdfmkenmlbjaa
