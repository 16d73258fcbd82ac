/- The draws of a feed. -/
import Derived.Test.YtfnmlffpnmmcdaaDrawItem
import Derived.Test.YtfnmlffpnmmcdaaFeedA
import Derived.Test.YtfnmlffpnmmcdaaKept
import Derived.Deep.RegionHeld3
import Derived.Deep.RegionWith
namespace Go.Proofs.Ytfnmlffpnmmcdaa
open Go.RowKit
/-- A feed drawn: some list, in new memory. -/
def DrewFd (g m : Nat) (w : World) (e : Ending) (w' : World) : Prop := ∃ (A : Option Addr) (cap : Nat) (xs : List ElItem), e = .returned (.slice A xs.length cap) ∧ xs.length ≤ 7 ∧ (∀ x ∈ xs, x.1.size ≤ 81 ∧ x.2.1.size ≤ 81 ∧ x.2.2.1.size ≤ 81) ∧ OwnE 4 encItem 68 w' w.heap.size A cap xs ∧ Rdr w' g m ∧ w.grownBy w' (some g)
theorem add_szI {xs : List ElItem} (h : ∀ x ∈ xs, x.1.size ≤ 81 ∧ x.2.1.size ≤ 81 ∧ x.2.2.1.size ≤ 81) {y : ElItem} (hy : y.1.size ≤ 81 ∧ y.2.1.size ≤ 81 ∧ y.2.2.1.size ≤ 81) : ∀ x ∈ xs ++ [y], x.1.size ≤ 81 ∧ x.2.1.size ≤ 81 ∧ x.2.2.1.size ≤ 81 := fun x hx => (List.mem_append.1 hx).elim (h x) (fun e => by rw [List.mem_singleton] at e; subst e; exact hy)
theorem sz81 {s : ByteArray} (h : s.size ≤ 81) : s.size ≤ maxLen := by simp only [maxLen]; omega
theorem szI_max {xs : List ElItem} (h : ∀ x ∈ xs, x.1.size ≤ 81 ∧ x.2.1.size ≤ 81 ∧ x.2.2.1.size ≤ 81) : ∀ k, k < xs.length → (gt xs k).1.size ≤ maxLen ∧ (gt xs k).2.1.size ≤ maxLen ∧ (gt xs k).2.2.1.size ≤ maxLen := fun k hk =>
  have q := h _ (gt_mem hk); ⟨sz81 q.1, sz81 q.2.1, sz81 q.2.2⟩
set_option maxHeartbeats 3200000 in
theorem l20Feed_any (g m : Nat) (n : Int) (w : World) (h : Rdr w g m) (hm : m ≤ 800000) (hn : 0 ≤ n) (hn2 : n ≤ 1000000) :
    Calls Try.prog 33 #[.pointer (some ⟨g, 0, none⟩), .int .i64 n] w (DrewFd g (m + 100) w) := by
  have hlt := h.lt
  go_enter Try.func33, Try.ntmps33
  go_wp2_with fail
  refine (pick_any g m _ _ (h.alloc _) (by omega)).mono ?_
  rintro e w1 ⟨y, rfl, hy0, hy1, hr1, hg1⟩
  obtain ⟨y0, rfl⟩ := Int.eq_ofNat_of_zero_le hy0
  have hyb : y0 ≤ 6 := by omega
  have ho1 : OwnE 4 encItem 68 w1 w.heap.size (some ⟨w.heap.size, 0, none⟩) 0 ([] : List ElItem) := keptI (xs := []) (Own.lit w 68 4 0 #[] (cE 4 encItem ([] : List ElItem)) (Nat.zero_le _) rfl) hg1 hlt
  have hw1 := (only_alloc w (some g) (World.grownBy.refl _ _) _).trans hg1
  clear hy0 hy1 hg1
  go_wp2_with fail
  go_loopw [5, 6, 7] (fun v i _ wr => ∃ (c y : Nat) (T : Option Addr) (cap : Nat) (cur : List ElItem), c + y ≤ 6 ∧ i = .int .i64 y ∧ v = .slice T cur.length cap ∧ cur.length ≤ c ∧ Hid (∀ x ∈ cur, x.1.size ≤ 81 ∧ x.2.1.size ≤ 81 ∧ x.2.2.1.size ≤ 81) ∧ OwnE 4 encItem 68 wr w.heap.size T cap cur ∧ Rdr wr g (m + 1 + 12 * c) ∧ w.grownBy wr (some g)) (fun _ i _ _ => (intOf i).toNat)
  case atStart => exact ⟨0, y0, _, 0, [], by omega, rfl, rfl, by simp, Lib.hid (fun x hx => by cases hx), ho1, hr1, hw1⟩
  case round =>
    obtain ⟨c, y, T, cap, cur, hcy, rfl, rfl, hcl, HSZ, hown, hr, hw⟩ := hrel
    clear ho1 hr1 hw1
    have hsz := hw.size
    by_cases hlt2 : 0 < y
    · obtain ⟨y, rfl⟩ : ∃ z, y = z + 1 := ⟨y - 1, by omega⟩
      have hd : decide (0 < ((y + 1 : Nat) : Int)) = true := decide_eq_true (by omega)
      go_wp2_with fail
      refine (l20Item_any g _ _ _ hr (by omega) (by omega) (by omega)).mono ?_
      rintro e w5 ⟨p, rfl, hp0, hp1, hp2, hr5, hg5⟩
      have hown5 := keptI hown hg5 hlt
      have hw5 := hw.trans hg5
      have hs5 := hw5.size
      have hownX := Own.below hown5 ((Below.refl _ _).alloc (Nat.le_refl _) (.cells #[Value.string p.1, Value.string p.2.1, Value.string p.2.2.1, Value.int .i64 p.2.2.2] 68))
      have hwX := only_alloc w (some g) hw5 (.cells #[Value.string p.1, Value.string p.2.1, Value.string p.2.2.1, Value.int .i64 p.2.2.2] 68)
      have hrX := hr5.alloc (.cells #[Value.string p.1, Value.string p.2.1, Value.string p.2.2.1, Value.int .i64 p.2.2.2] 68)
      have hzX : w5.heap.size < (w5.alloc (.cells #[Value.string p.1, Value.string p.2.1, Value.string p.2.2.1, Value.int .i64 p.2.2.2] 68)).heap.size := by simp
      have hhi : Hid (∀ b, blk T = some b → b < w5.heap.size) := Lib.hid (fun b hb => (Own.lt hown5 hb).2)
      have s0 : (w5.alloc (.cells #[Value.string p.1, Value.string p.2.1, Value.string p.2.2.1, Value.int .i64 p.2.2.2] 68)).cell? ⟨w5.heap.size, 0, none⟩ = some (Value.string p.1) := by rw [World.cell?_alloc_at _ _ _ _ rfl]; rfl
      have s1 : (w5.alloc (.cells #[Value.string p.1, Value.string p.2.1, Value.string p.2.2.1, Value.int .i64 p.2.2.2] 68)).cell? ⟨w5.heap.size, 1, none⟩ = some (Value.string p.2.1) := by rw [World.cell?_alloc_at _ _ _ _ rfl]; rfl
      have s2 : (w5.alloc (.cells #[Value.string p.1, Value.string p.2.1, Value.string p.2.2.1, Value.int .i64 p.2.2.2] 68)).cell? ⟨w5.heap.size, 2, none⟩ = some (Value.string p.2.2.1) := by rw [World.cell?_alloc_at _ _ _ _ rfl]; rfl
      have s3 : (w5.alloc (.cells #[Value.string p.1, Value.string p.2.1, Value.string p.2.2.1, Value.int .i64 p.2.2.2] 68)).cell? ⟨w5.heap.size, 3, none⟩ = some (Value.int .i64 p.2.2.2) := by rw [World.cell?_alloc_at _ _ _ _ rfl]; rfl
      clear hown hr hw hown5 hw5 hr5 hg5
      go_wp2_with fail
      generalize (w5.alloc (.cells #[Value.string p.1, Value.string p.2.1, Value.string p.2.2.1, Value.int .i64 p.2.2.2] 68)) = W at *
      have hempA : Own (W.alloc (.cells #[] 68)) W.heap.size 68 4 (some ⟨W.heap.size, 0, none⟩) 0 0 (cE 4 encItem ([] : List ElItem)) := Own.more (Own.lit W 68 4 0 #[] (cE 4 encItem ([] : List ElItem)) (Nat.zero_le _) rfl) (by first | omega | (simp; done) | (simp; omega))
      have hempB : Own ((W.alloc (.cells #[] 68)).alloc (.cells #[Value.string p.1, Value.string p.2.1, Value.string p.2.2.1, Value.int .i64 p.2.2.2] 68)) W.heap.size 68 4 (some ⟨W.heap.size, 0, none⟩) 0 0 (cE 4 encItem ([] : List ElItem)) := Own.below hempA ((Below.refl _ _).alloc (Nat.le_refl _) _)
      have hempC : Own ((W.alloc (.cells #[Value.string p.1, Value.string p.2.1, Value.string p.2.2.1, Value.int .i64 p.2.2.2] 68)).alloc (.cells #[] 68)) W.heap.size 68 4 (some ⟨W.heap.size + 1, 0, none⟩) 0 0 (cE 4 encItem ([] : List ElItem)) := by
        have := Own.lit (W.alloc (.cells #[Value.string p.1, Value.string p.2.1, Value.string p.2.2.1, Value.int .i64 p.2.2.2] 68)) 68 4 0 #[] (cE 4 encItem ([] : List ElItem)) (Nat.zero_le _) rfl
        rw [show ((W.alloc (.cells #[Value.string p.1, Value.string p.2.1, Value.string p.2.2.1, Value.int .i64 p.2.2.2] 68))).heap.size = W.heap.size + 1 by simp] at this
        exact Own.more this (by omega)
      have hgA : Below W.heap.size W (W.alloc (.cells #[] 68)) := (Below.refl W.heap.size W).alloc (by omega) _
      have hgB : Below W.heap.size W ((W.alloc (.cells #[] 68)).alloc (.cells #[Value.string p.1, Value.string p.2.1, Value.string p.2.2.1, Value.int .i64 p.2.2.2] 68)) := hgA.alloc (by first | omega | (simp; done) | (simp; omega)) _
      have hgP : Below W.heap.size W (W.alloc (.cells #[Value.string p.1, Value.string p.2.1, Value.string p.2.2.1, Value.int .i64 p.2.2.2] 68)) := (Below.refl W.heap.size W).alloc (by omega) _
      have hgC : Below W.heap.size W ((W.alloc (.cells #[Value.string p.1, Value.string p.2.1, Value.string p.2.2.1, Value.int .i64 p.2.2.2] 68)).alloc (.cells #[] 68)) := hgP.alloc (by first | omega | (simp; done) | (simp; omega)) _
      have qa0 := (hgA.cell (p := ⟨w5.heap.size, 0, none⟩) (by show w5.heap.size < W.heap.size; omega)).trans s0
      have qa1 := (hgA.cell (p := ⟨w5.heap.size, 1, none⟩) (by show w5.heap.size < W.heap.size; omega)).trans s1
      have qa2 := (hgA.cell (p := ⟨w5.heap.size, 2, none⟩) (by show w5.heap.size < W.heap.size; omega)).trans s2
      have qa3 := (hgA.cell (p := ⟨w5.heap.size, 3, none⟩) (by show w5.heap.size < W.heap.size; omega)).trans s3
      have qb0 := (hgB.cell (p := ⟨w5.heap.size, 0, none⟩) (by show w5.heap.size < W.heap.size; omega)).trans s0
      have qb1 := (hgB.cell (p := ⟨w5.heap.size, 1, none⟩) (by show w5.heap.size < W.heap.size; omega)).trans s1
      have qb2 := (hgB.cell (p := ⟨w5.heap.size, 2, none⟩) (by show w5.heap.size < W.heap.size; omega)).trans s2
      have qb3 := (hgB.cell (p := ⟨w5.heap.size, 3, none⟩) (by show w5.heap.size < W.heap.size; omega)).trans s3
      have qp0 := (hgP.cell (p := ⟨w5.heap.size, 0, none⟩) (by show w5.heap.size < W.heap.size; omega)).trans s0
      have qp1 := (hgP.cell (p := ⟨w5.heap.size, 1, none⟩) (by show w5.heap.size < W.heap.size; omega)).trans s1
      have qp2 := (hgP.cell (p := ⟨w5.heap.size, 2, none⟩) (by show w5.heap.size < W.heap.size; omega)).trans s2
      have qp3 := (hgP.cell (p := ⟨w5.heap.size, 3, none⟩) (by show w5.heap.size < W.heap.size; omega)).trans s3
      have qc0 := (hgC.cell (p := ⟨w5.heap.size, 0, none⟩) (by show w5.heap.size < W.heap.size; omega)).trans s0
      have qc1 := (hgC.cell (p := ⟨w5.heap.size, 1, none⟩) (by show w5.heap.size < W.heap.size; omega)).trans s1
      have qc2 := (hgC.cell (p := ⟨w5.heap.size, 2, none⟩) (by show w5.heap.size < W.heap.size; omega)).trans s2
      have qc3 := (hgC.cell (p := ⟨w5.heap.size, 3, none⟩) (by show w5.heap.size < W.heap.size; omega)).trans s3
      have hrdW : RdE 4 encItem W W.heap.size T cur := OwnE.rd hownX
      have hrA : RdE 4 encItem (W.alloc (.cells #[] 68)) W.heap.size T cur := hrdW.below hgA
      have hrB : RdE 4 encItem ((W.alloc (.cells #[] 68)).alloc (.cells #[Value.string p.1, Value.string p.2.1, Value.string p.2.2.1, Value.int .i64 p.2.2.2] 68)) W.heap.size T cur := hrdW.below hgB
      have hrC : RdE 4 encItem ((W.alloc (.cells #[Value.string p.1, Value.string p.2.1, Value.string p.2.2.1, Value.int .i64 p.2.2.2] 68)).alloc (.cells #[] 68)) W.heap.size T cur := hrdW.below hgC
      have hxB : ∀ j, j < 4 → (((W.alloc (.cells #[] 68)).alloc (.cells #[Value.string p.1, Value.string p.2.1, Value.string p.2.2.1, Value.int .i64 p.2.2.2] 68))).cell? ⟨W.heap.size + 1, j, none⟩ = some (encItem p j) := fun j hj => by
        rw [World.cell?_alloc_at _ _ _ _ (by simp)]; rcases (by omega : j = 0 ∨ j = 1 ∨ j = 2 ∨ j = 3) with rfl | rfl | rfl | rfl <;> rfl
      have hxC : ∀ j, j < 4 → (((W.alloc (.cells #[Value.string p.1, Value.string p.2.1, Value.string p.2.2.1, Value.int .i64 p.2.2.2] 68)).alloc (.cells #[] 68))).cell? ⟨W.heap.size, j, none⟩ = some (encItem p j) := fun j hj => by
        rw [((Below.refl (W.heap.size + 1) (W.alloc (.cells #[Value.string p.1, Value.string p.2.1, Value.string p.2.2.1, Value.int .i64 p.2.2.2] 68))).alloc (by simp) _).cell (by show W.heap.size < W.heap.size + 1; omega), World.cell?_alloc_at _ _ _ _ rfl]; rcases (by omega : j = 0 ∨ j = 1 ∨ j = 2 ∨ j = 3) with rfl | rfl | rfl | rfl <;> rfl
      have szA : ((W.alloc (.cells #[] 68))).drew.heap.size = W.heap.size + 1 := by simp
      have szB : (((W.alloc (.cells #[] 68)).alloc (.cells #[Value.string p.1, Value.string p.2.1, Value.string p.2.2.1, Value.int .i64 p.2.2.2] 68))).drew.heap.size = W.heap.size + 1 + 1 := by simp
      have szC : (((W.alloc (.cells #[Value.string p.1, Value.string p.2.1, Value.string p.2.2.1, Value.int .i64 p.2.2.2] 68)).alloc (.cells #[] 68))).drew.heap.size = W.heap.size + 1 + 1 := by simp
      replace hempA : Own ((W.alloc (.cells #[] 68))).drew W.heap.size 68 4 (some ⟨W.heap.size, 0, none⟩) 0 0 (cE 4 encItem ([] : List ElItem)) := hempA
      replace hrA : RdE 4 encItem ((W.alloc (.cells #[] 68))).drew W.heap.size T cur := hrA
      have hbeA := hgA.drew
      replace qa0 : (((W.alloc (.cells #[] 68))).drew).cell? ⟨w5.heap.size, 0, none⟩ = some (Value.string p.1) := qa0
      replace qa1 : (((W.alloc (.cells #[] 68))).drew).cell? ⟨w5.heap.size, 1, none⟩ = some (Value.string p.2.1) := qa1
      replace qa2 : (((W.alloc (.cells #[] 68))).drew).cell? ⟨w5.heap.size, 2, none⟩ = some (Value.string p.2.2.1) := qa2
      replace qa3 : (((W.alloc (.cells #[] 68))).drew).cell? ⟨w5.heap.size, 3, none⟩ = some (Value.int .i64 p.2.2.2) := qa3
      replace hempB : Own (((W.alloc (.cells #[] 68)).alloc (.cells #[Value.string p.1, Value.string p.2.1, Value.string p.2.2.1, Value.int .i64 p.2.2.2] 68))).drew W.heap.size 68 4 (some ⟨W.heap.size, 0, none⟩) 0 0 (cE 4 encItem ([] : List ElItem)) := hempB
      replace hrB : RdE 4 encItem (((W.alloc (.cells #[] 68)).alloc (.cells #[Value.string p.1, Value.string p.2.1, Value.string p.2.2.1, Value.int .i64 p.2.2.2] 68))).drew W.heap.size T cur := hrB
      have hbeB := hgB.drew
      replace qb0 : ((((W.alloc (.cells #[] 68)).alloc (.cells #[Value.string p.1, Value.string p.2.1, Value.string p.2.2.1, Value.int .i64 p.2.2.2] 68))).drew).cell? ⟨w5.heap.size, 0, none⟩ = some (Value.string p.1) := qb0
      replace qb1 : ((((W.alloc (.cells #[] 68)).alloc (.cells #[Value.string p.1, Value.string p.2.1, Value.string p.2.2.1, Value.int .i64 p.2.2.2] 68))).drew).cell? ⟨w5.heap.size, 1, none⟩ = some (Value.string p.2.1) := qb1
      replace qb2 : ((((W.alloc (.cells #[] 68)).alloc (.cells #[Value.string p.1, Value.string p.2.1, Value.string p.2.2.1, Value.int .i64 p.2.2.2] 68))).drew).cell? ⟨w5.heap.size, 2, none⟩ = some (Value.string p.2.2.1) := qb2
      replace qb3 : ((((W.alloc (.cells #[] 68)).alloc (.cells #[Value.string p.1, Value.string p.2.1, Value.string p.2.2.1, Value.int .i64 p.2.2.2] 68))).drew).cell? ⟨w5.heap.size, 3, none⟩ = some (Value.int .i64 p.2.2.2) := qb3
      replace hempC : Own (((W.alloc (.cells #[Value.string p.1, Value.string p.2.1, Value.string p.2.2.1, Value.int .i64 p.2.2.2] 68)).alloc (.cells #[] 68))).drew W.heap.size 68 4 (some ⟨W.heap.size + 1, 0, none⟩) 0 0 (cE 4 encItem ([] : List ElItem)) := hempC
      replace hrC : RdE 4 encItem (((W.alloc (.cells #[Value.string p.1, Value.string p.2.1, Value.string p.2.2.1, Value.int .i64 p.2.2.2] 68)).alloc (.cells #[] 68))).drew W.heap.size T cur := hrC
      have hbeC := hgC.drew
      replace qc0 : ((((W.alloc (.cells #[Value.string p.1, Value.string p.2.1, Value.string p.2.2.1, Value.int .i64 p.2.2.2] 68)).alloc (.cells #[] 68))).drew).cell? ⟨w5.heap.size, 0, none⟩ = some (Value.string p.1) := qc0
      replace qc1 : ((((W.alloc (.cells #[Value.string p.1, Value.string p.2.1, Value.string p.2.2.1, Value.int .i64 p.2.2.2] 68)).alloc (.cells #[] 68))).drew).cell? ⟨w5.heap.size, 1, none⟩ = some (Value.string p.2.1) := qc1
      replace qc2 : ((((W.alloc (.cells #[Value.string p.1, Value.string p.2.1, Value.string p.2.2.1, Value.int .i64 p.2.2.2] 68)).alloc (.cells #[] 68))).drew).cell? ⟨w5.heap.size, 2, none⟩ = some (Value.string p.2.2.1) := qc2
      replace qc3 : ((((W.alloc (.cells #[Value.string p.1, Value.string p.2.1, Value.string p.2.2.1, Value.int .i64 p.2.2.2] 68)).alloc (.cells #[] 68))).drew).cell? ⟨w5.heap.size, 3, none⟩ = some (Value.int .i64 p.2.2.2) := qc3
      replace hxB : ∀ j, j < 4 → ((((W.alloc (.cells #[] 68)).alloc (.cells #[Value.string p.1, Value.string p.2.1, Value.string p.2.2.1, Value.int .i64 p.2.2.2] 68))).drew).cell? ⟨W.heap.size + 1, j, none⟩ = some (encItem p j) := hxB
      replace hxC : ∀ j, j < 4 → ((((W.alloc (.cells #[Value.string p.1, Value.string p.2.1, Value.string p.2.2.1, Value.int .i64 p.2.2.2] 68)).alloc (.cells #[] 68))).drew).cell? ⟨W.heap.size, j, none⟩ = some (encItem p j) := hxC
      clear hgA hgB hgP hgC hrdW
      have hlq : (cur ++ [p]).length = cur.length + 1 := by simp
      have HLQ := Lib.hid hlq
      have HQS := Lib.hid (szI_max (add_szI HSZ.out (y := p) ⟨hp0, hp1, hp2⟩))
      clear hlq
      cases hq : fdB (cur ++ [p])
      · have HQ := Lib.hid hq
        clear hq
        go_wp2_with fail
        go_region_held3 (fun w' => w'.cell? ⟨w5.heap.size, 0, none⟩ = some (Value.string p.1) ∧ w'.cell? ⟨w5.heap.size, 1, none⟩ = some (Value.string p.2.1) ∧ w'.cell? ⟨w5.heap.size, 2, none⟩ = some (Value.string p.2.2.1) ∧ w'.cell? ⟨w5.heap.size, 3, none⟩ = some (Value.int .i64 p.2.2.2)) (first | exact ⟨s0, s1, s2, s3⟩ | exact ⟨qa0, qa1, qa2, qa3⟩ | exact ⟨qb0, qb1, qb2, qb3⟩ | exact ⟨qc0, qc1, qc2, qc3⟩ | exact ⟨qp0, qp1, qp2, qp3⟩ | exact ⟨t0, t1, t2, t3⟩ | exact ⟨v0, v1, v2, v3⟩ | exact ⟨x0, x1, x2, x3⟩ | go_keep) (first
          | (refine step_app (by rfl) (.tmp 17) (.tmp 18) _ (by rfl) W.heap.size 68 _ 4 56 Try.underlying25 info_Item rfl (by omega) (some ⟨W.heap.size, 0, none⟩) T 0 0 cur.length cap _ (cE 4 encItem ([] : List ElItem)) (cE 4 encItem cur) (by simp [go_sem]) (by simp [go_sem]) hempA hrA (fun _ _ => encItem_one _ _) (by simp only [maxLen]; omega) (by omega) (by first | omega | (simp; done) | (simp; omega)) ?_; intro T1 cap1 w3 hown1 hg1; have hb3 := grown_below hg1 (fun b hb => (Own.lt hempA hb).1) (by first | omega | (simp; done) | (simp; omega)); have t0 := (hb3.cell (p := ⟨w5.heap.size, 0, none⟩) (by show w5.heap.size < W.heap.size; omega)).trans qa0; have t1 := (hb3.cell (p := ⟨w5.heap.size, 1, none⟩) (by show w5.heap.size < W.heap.size; omega)).trans qa1; have t2 := (hb3.cell (p := ⟨w5.heap.size, 2, none⟩) (by show w5.heap.size < W.heap.size; omega)).trans qa2; have t3 := (hb3.cell (p := ⟨w5.heap.size, 3, none⟩) (by show w5.heap.size < W.heap.size; omega)).trans qa3; have hown1' := OwnE.first hown1 rfl; have z3 := hb3.size; rw [szA] at z3; have z3' : W.heap.size ≤ w3.heap.size := (by omega); have c3 := hbeA.trans hb3; clear hown1 hg1)
          | (refine step_app (by rfl) (.tmp 17) (.tmp 18) _ (by rfl) W.heap.size 68 _ 4 56 Try.underlying25 info_Item rfl (by omega) (some ⟨W.heap.size, 0, none⟩) T 0 0 cur.length cap _ (cE 4 encItem ([] : List ElItem)) (cE 4 encItem cur) (by simp [go_sem]) (by simp [go_sem]) hempB hrB (fun _ _ => encItem_one _ _) (by simp only [maxLen]; omega) (by omega) (by first | omega | (simp; done) | (simp; omega)) ?_; intro T1 cap1 w3 hown1 hg1; have hb3 := grown_below hg1 (fun b hb => (Own.lt hempB hb).1) (by first | omega | (simp; done) | (simp; omega)); have t0 := (hb3.cell (p := ⟨w5.heap.size, 0, none⟩) (by show w5.heap.size < W.heap.size; omega)).trans qb0; have t1 := (hb3.cell (p := ⟨w5.heap.size, 1, none⟩) (by show w5.heap.size < W.heap.size; omega)).trans qb1; have t2 := (hb3.cell (p := ⟨w5.heap.size, 2, none⟩) (by show w5.heap.size < W.heap.size; omega)).trans qb2; have t3 := (hb3.cell (p := ⟨w5.heap.size, 3, none⟩) (by show w5.heap.size < W.heap.size; omega)).trans qb3; have hown1' := OwnE.first hown1 rfl; have z3 := hb3.size; rw [szB] at z3; have z3' : W.heap.size ≤ w3.heap.size := (by omega); have c3 := hbeB.trans hb3; have hpx := elem_kept (enc := encItem) (y := p) (W.heap.size + 1) hg1 (by first | omega | (simp; done) | (simp; omega)) (.inr (by first | (simp [blk]; done) | (simp [blk]; omega))) hxB; clear hown1 hg1)
          | (refine step_app (by rfl) (.tmp 17) (.tmp 18) _ (by rfl) W.heap.size 68 _ 4 56 Try.underlying25 info_Item rfl (by omega) (some ⟨W.heap.size + 1, 0, none⟩) T 0 0 cur.length cap _ (cE 4 encItem ([] : List ElItem)) (cE 4 encItem cur) (by simp [go_sem]) (by simp [go_sem]) hempC hrC (fun _ _ => encItem_one _ _) (by simp only [maxLen]; omega) (by omega) (by first | omega | (simp; done) | (simp; omega)) ?_; intro T1 cap1 w3 hown1 hg1; have hb3 := grown_below hg1 (fun b hb => (Own.lt hempC hb).1) (by first | omega | (simp; done) | (simp; omega)); have t0 := (hb3.cell (p := ⟨w5.heap.size, 0, none⟩) (by show w5.heap.size < W.heap.size; omega)).trans qc0; have t1 := (hb3.cell (p := ⟨w5.heap.size, 1, none⟩) (by show w5.heap.size < W.heap.size; omega)).trans qc1; have t2 := (hb3.cell (p := ⟨w5.heap.size, 2, none⟩) (by show w5.heap.size < W.heap.size; omega)).trans qc2; have t3 := (hb3.cell (p := ⟨w5.heap.size, 3, none⟩) (by show w5.heap.size < W.heap.size; omega)).trans qc3; have hown1' := OwnE.first hown1 rfl; have z3 := hb3.size; rw [szC] at z3; have z3' : W.heap.size ≤ w3.heap.size := (by omega); have c3 := hbeC.trans hb3; have hpx := elem_kept (enc := encItem) (y := p) W.heap.size hg1 (by first | omega | (simp; done) | (simp; omega)) (.inr (by first | (simp [blk]; done) | (simp [blk]; omega))) hxC; clear hown1 hg1)
          | (refine step_app (by rfl) (.tmp 19) (.tmp 21) _ (by rfl) W.heap.size 68 _ 4 56 Try.underlying25 info_Item rfl (by omega) T1 (some ⟨w3.heap.size, 0, none⟩) cur.length cap1 1 1 _ (cE 4 encItem cur) (encItem p) (by simp [go_sem]) (by simp [go_sem]) (Own.below hown1' ((Below.refl _ _).alloc (Nat.le_refl _) _)) (rd_elem _ _ _ _ (fun j hj => by rcases (by omega : j = 0 ∨ j = 1 ∨ j = 2 ∨ j = 3) with rfl | rfl | rfl | rfl <;> rfl)) (fun _ _ => encItem_one _ _) (by simp only [maxLen]; omega) (by omega) (by first | omega | (simp; done) | (simp; omega)) ?_; intro T2 cap2 w4 hown2 hg2; have hb4 := ((Below.refl W.heap.size w3).alloc (by omega) _).trans (grown_below hg2 (fun b hb => (Own.lt hown1' hb).1) (by first | omega | (simp; done) | (simp; omega))); have hown2' := OwnE.snoc (by omega) hown2; have z4 := hb4.size; have v0 := (hb4.cell (p := ⟨w5.heap.size, 0, none⟩) (by show w5.heap.size < W.heap.size; omega)).trans t0; have v1 := (hb4.cell (p := ⟨w5.heap.size, 1, none⟩) (by show w5.heap.size < W.heap.size; omega)).trans t1; have v2 := (hb4.cell (p := ⟨w5.heap.size, 2, none⟩) (by show w5.heap.size < W.heap.size; omega)).trans t2; have v3 := (hb4.cell (p := ⟨w5.heap.size, 3, none⟩) (by show w5.heap.size < W.heap.size; omega)).trans t3; clear hown2 hg2)
          | (refine step_app (by rfl) (.tmp 19) (.tmp 21) _ (by rfl) W.heap.size 68 _ 4 56 Try.underlying25 info_Item rfl (by omega) T1 (some ⟨W.heap.size + 1, 0, none⟩) cur.length cap1 1 1 _ (cE 4 encItem cur) (encItem p) (by simp [go_sem]) (by simp [go_sem]) hown1' hpx (fun _ _ => encItem_one _ _) (by simp only [maxLen]; omega) (by omega) (by first | omega | (simp; done) | (simp; omega)) ?_; intro T2 cap2 w4 hown2 hg2; have hb4 := grown_below hg2 (fun b hb => (Own.lt hown1' hb).1) (by first | omega | (simp; done) | (simp; omega)); have hown2' := OwnE.snoc (by omega) hown2; have z4 := hb4.size; have v0 := (hb4.cell (p := ⟨w5.heap.size, 0, none⟩) (by show w5.heap.size < W.heap.size; omega)).trans t0; have v1 := (hb4.cell (p := ⟨w5.heap.size, 1, none⟩) (by show w5.heap.size < W.heap.size; omega)).trans t1; have v2 := (hb4.cell (p := ⟨w5.heap.size, 2, none⟩) (by show w5.heap.size < W.heap.size; omega)).trans t2; have v3 := (hb4.cell (p := ⟨w5.heap.size, 3, none⟩) (by show w5.heap.size < W.heap.size; omega)).trans t3; clear hown2 hg2)
          | (refine step_app (by rfl) (.tmp 19) (.tmp 21) _ (by rfl) W.heap.size 68 _ 4 56 Try.underlying25 info_Item rfl (by omega) T1 (some ⟨W.heap.size, 0, none⟩) cur.length cap1 1 1 _ (cE 4 encItem cur) (encItem p) (by simp [go_sem]) (by simp [go_sem]) hown1' hpx (fun _ _ => encItem_one _ _) (by simp only [maxLen]; omega) (by omega) (by first | omega | (simp; done) | (simp; omega)) ?_; intro T2 cap2 w4 hown2 hg2; have hb4 := grown_below hg2 (fun b hb => (Own.lt hown1' hb).1) (by first | omega | (simp; done) | (simp; omega)); have hown2' := OwnE.snoc (by omega) hown2; have z4 := hb4.size; have v0 := (hb4.cell (p := ⟨w5.heap.size, 0, none⟩) (by show w5.heap.size < W.heap.size; omega)).trans t0; have v1 := (hb4.cell (p := ⟨w5.heap.size, 1, none⟩) (by show w5.heap.size < W.heap.size; omega)).trans t1; have v2 := (hb4.cell (p := ⟨w5.heap.size, 2, none⟩) (by show w5.heap.size < W.heap.size; omega)).trans t2; have v3 := (hb4.cell (p := ⟨w5.heap.size, 3, none⟩) (by show w5.heap.size < W.heap.size; omega)).trans t3; clear hown2 hg2)
          | (go_at_call 19; have hcall := specFeedValid_any T2 cap2 w4.heap.size (cur ++ [p]) w4 (OwnE.rd hown2') (Nat.le_refl _) (by rw [HLQ.out]; omega) HQS.out; rw [HLQ.out, HQ.out] at hcall; have HC := Lib.hid hcall; clear hcall; refine HC.out.mono ?_; rintro e w6 ⟨rfl, hb6⟩; have z6 := hb6.size; have hb46 : Below W.heap.size w4 w6 := hb6.mono (by omega); have x0 := (hb46.cell (p := ⟨w5.heap.size, 0, none⟩) (by show w5.heap.size < W.heap.size; omega)).trans v0; have x1 := (hb46.cell (p := ⟨w5.heap.size, 1, none⟩) (by show w5.heap.size < W.heap.size; omega)).trans v1; have x2 := (hb46.cell (p := ⟨w5.heap.size, 2, none⟩) (by show w5.heap.size < W.heap.size; omega)).trans v2; have x3 := (hb46.cell (p := ⟨w5.heap.size, 3, none⟩) (by show w5.heap.size < W.heap.size; omega)).trans v3))
        all_goals
          have hbF : Below W.heap.size W w6 := (c3.trans hb4).trans hb46
          have hwF := only_below hwX hbF (by have := hwX.size; omega)
          have hrF := hrX.below hbF (by omega)
          have hownF := Own.belowB hownX hbF (fun b hb => by have := hhi.out b hb; omega)
          have hsF := hwF.size
          clear hempA hempB hempC hrA hrB hrC hbeA hbeB hbeC qa0 qa1 qa2 qa3 qb0 qb1 qb2 qb3 qc0 qc1 qc2 qc3 qp0 qp1 qp2 qp3 t0 t1 t2 t3 v0 v1 v2 v3 s0 s1 s2 s3 hxB hxC hown1' hown2' hownX hwX hrX c3 hb3 hb4 hb46 hb6 hbF
          go_wp2_with fail
          go_roundw
          case rel => exact ⟨c + 1, y, T, cap, cur, by omega, by go_num, rfl, by omega, HSZ, hownF, hrF.more (by omega), hwF⟩
          case measure => simp [intOf]
      · have HQ := Lib.hid hq
        clear hq
        go_wp2_with fail
        go_region_held3 (fun w' => w'.cell? ⟨w5.heap.size, 0, none⟩ = some (Value.string p.1) ∧ w'.cell? ⟨w5.heap.size, 1, none⟩ = some (Value.string p.2.1) ∧ w'.cell? ⟨w5.heap.size, 2, none⟩ = some (Value.string p.2.2.1) ∧ w'.cell? ⟨w5.heap.size, 3, none⟩ = some (Value.int .i64 p.2.2.2)) (first | exact ⟨s0, s1, s2, s3⟩ | exact ⟨qa0, qa1, qa2, qa3⟩ | exact ⟨qb0, qb1, qb2, qb3⟩ | exact ⟨qc0, qc1, qc2, qc3⟩ | exact ⟨qp0, qp1, qp2, qp3⟩ | exact ⟨t0, t1, t2, t3⟩ | exact ⟨v0, v1, v2, v3⟩ | exact ⟨x0, x1, x2, x3⟩ | go_keep) (first
          | (refine step_app (by rfl) (.tmp 17) (.tmp 18) _ (by rfl) W.heap.size 68 _ 4 56 Try.underlying25 info_Item rfl (by omega) (some ⟨W.heap.size, 0, none⟩) T 0 0 cur.length cap _ (cE 4 encItem ([] : List ElItem)) (cE 4 encItem cur) (by simp [go_sem]) (by simp [go_sem]) hempA hrA (fun _ _ => encItem_one _ _) (by simp only [maxLen]; omega) (by omega) (by first | omega | (simp; done) | (simp; omega)) ?_; intro T1 cap1 w3 hown1 hg1; have hb3 := grown_below hg1 (fun b hb => (Own.lt hempA hb).1) (by first | omega | (simp; done) | (simp; omega)); have t0 := (hb3.cell (p := ⟨w5.heap.size, 0, none⟩) (by show w5.heap.size < W.heap.size; omega)).trans qa0; have t1 := (hb3.cell (p := ⟨w5.heap.size, 1, none⟩) (by show w5.heap.size < W.heap.size; omega)).trans qa1; have t2 := (hb3.cell (p := ⟨w5.heap.size, 2, none⟩) (by show w5.heap.size < W.heap.size; omega)).trans qa2; have t3 := (hb3.cell (p := ⟨w5.heap.size, 3, none⟩) (by show w5.heap.size < W.heap.size; omega)).trans qa3; have hown1' := OwnE.first hown1 rfl; have z3 := hb3.size; rw [szA] at z3; have z3' : W.heap.size ≤ w3.heap.size := (by omega); have c3 := hbeA.trans hb3; clear hown1 hg1)
          | (refine step_app (by rfl) (.tmp 17) (.tmp 18) _ (by rfl) W.heap.size 68 _ 4 56 Try.underlying25 info_Item rfl (by omega) (some ⟨W.heap.size, 0, none⟩) T 0 0 cur.length cap _ (cE 4 encItem ([] : List ElItem)) (cE 4 encItem cur) (by simp [go_sem]) (by simp [go_sem]) hempB hrB (fun _ _ => encItem_one _ _) (by simp only [maxLen]; omega) (by omega) (by first | omega | (simp; done) | (simp; omega)) ?_; intro T1 cap1 w3 hown1 hg1; have hb3 := grown_below hg1 (fun b hb => (Own.lt hempB hb).1) (by first | omega | (simp; done) | (simp; omega)); have t0 := (hb3.cell (p := ⟨w5.heap.size, 0, none⟩) (by show w5.heap.size < W.heap.size; omega)).trans qb0; have t1 := (hb3.cell (p := ⟨w5.heap.size, 1, none⟩) (by show w5.heap.size < W.heap.size; omega)).trans qb1; have t2 := (hb3.cell (p := ⟨w5.heap.size, 2, none⟩) (by show w5.heap.size < W.heap.size; omega)).trans qb2; have t3 := (hb3.cell (p := ⟨w5.heap.size, 3, none⟩) (by show w5.heap.size < W.heap.size; omega)).trans qb3; have hown1' := OwnE.first hown1 rfl; have z3 := hb3.size; rw [szB] at z3; have z3' : W.heap.size ≤ w3.heap.size := (by omega); have c3 := hbeB.trans hb3; have hpx := elem_kept (enc := encItem) (y := p) (W.heap.size + 1) hg1 (by first | omega | (simp; done) | (simp; omega)) (.inr (by first | (simp [blk]; done) | (simp [blk]; omega))) hxB; clear hown1 hg1)
          | (refine step_app (by rfl) (.tmp 17) (.tmp 18) _ (by rfl) W.heap.size 68 _ 4 56 Try.underlying25 info_Item rfl (by omega) (some ⟨W.heap.size + 1, 0, none⟩) T 0 0 cur.length cap _ (cE 4 encItem ([] : List ElItem)) (cE 4 encItem cur) (by simp [go_sem]) (by simp [go_sem]) hempC hrC (fun _ _ => encItem_one _ _) (by simp only [maxLen]; omega) (by omega) (by first | omega | (simp; done) | (simp; omega)) ?_; intro T1 cap1 w3 hown1 hg1; have hb3 := grown_below hg1 (fun b hb => (Own.lt hempC hb).1) (by first | omega | (simp; done) | (simp; omega)); have t0 := (hb3.cell (p := ⟨w5.heap.size, 0, none⟩) (by show w5.heap.size < W.heap.size; omega)).trans qc0; have t1 := (hb3.cell (p := ⟨w5.heap.size, 1, none⟩) (by show w5.heap.size < W.heap.size; omega)).trans qc1; have t2 := (hb3.cell (p := ⟨w5.heap.size, 2, none⟩) (by show w5.heap.size < W.heap.size; omega)).trans qc2; have t3 := (hb3.cell (p := ⟨w5.heap.size, 3, none⟩) (by show w5.heap.size < W.heap.size; omega)).trans qc3; have hown1' := OwnE.first hown1 rfl; have z3 := hb3.size; rw [szC] at z3; have z3' : W.heap.size ≤ w3.heap.size := (by omega); have c3 := hbeC.trans hb3; have hpx := elem_kept (enc := encItem) (y := p) W.heap.size hg1 (by first | omega | (simp; done) | (simp; omega)) (.inr (by first | (simp [blk]; done) | (simp [blk]; omega))) hxC; clear hown1 hg1)
          | (refine step_app (by rfl) (.tmp 19) (.tmp 21) _ (by rfl) W.heap.size 68 _ 4 56 Try.underlying25 info_Item rfl (by omega) T1 (some ⟨w3.heap.size, 0, none⟩) cur.length cap1 1 1 _ (cE 4 encItem cur) (encItem p) (by simp [go_sem]) (by simp [go_sem]) (Own.below hown1' ((Below.refl _ _).alloc (Nat.le_refl _) _)) (rd_elem _ _ _ _ (fun j hj => by rcases (by omega : j = 0 ∨ j = 1 ∨ j = 2 ∨ j = 3) with rfl | rfl | rfl | rfl <;> rfl)) (fun _ _ => encItem_one _ _) (by simp only [maxLen]; omega) (by omega) (by first | omega | (simp; done) | (simp; omega)) ?_; intro T2 cap2 w4 hown2 hg2; have hb4 := ((Below.refl W.heap.size w3).alloc (by omega) _).trans (grown_below hg2 (fun b hb => (Own.lt hown1' hb).1) (by first | omega | (simp; done) | (simp; omega))); have hown2' := OwnE.snoc (by omega) hown2; have z4 := hb4.size; have v0 := (hb4.cell (p := ⟨w5.heap.size, 0, none⟩) (by show w5.heap.size < W.heap.size; omega)).trans t0; have v1 := (hb4.cell (p := ⟨w5.heap.size, 1, none⟩) (by show w5.heap.size < W.heap.size; omega)).trans t1; have v2 := (hb4.cell (p := ⟨w5.heap.size, 2, none⟩) (by show w5.heap.size < W.heap.size; omega)).trans t2; have v3 := (hb4.cell (p := ⟨w5.heap.size, 3, none⟩) (by show w5.heap.size < W.heap.size; omega)).trans t3; clear hown2 hg2)
          | (refine step_app (by rfl) (.tmp 19) (.tmp 21) _ (by rfl) W.heap.size 68 _ 4 56 Try.underlying25 info_Item rfl (by omega) T1 (some ⟨W.heap.size + 1, 0, none⟩) cur.length cap1 1 1 _ (cE 4 encItem cur) (encItem p) (by simp [go_sem]) (by simp [go_sem]) hown1' hpx (fun _ _ => encItem_one _ _) (by simp only [maxLen]; omega) (by omega) (by first | omega | (simp; done) | (simp; omega)) ?_; intro T2 cap2 w4 hown2 hg2; have hb4 := grown_below hg2 (fun b hb => (Own.lt hown1' hb).1) (by first | omega | (simp; done) | (simp; omega)); have hown2' := OwnE.snoc (by omega) hown2; have z4 := hb4.size; have v0 := (hb4.cell (p := ⟨w5.heap.size, 0, none⟩) (by show w5.heap.size < W.heap.size; omega)).trans t0; have v1 := (hb4.cell (p := ⟨w5.heap.size, 1, none⟩) (by show w5.heap.size < W.heap.size; omega)).trans t1; have v2 := (hb4.cell (p := ⟨w5.heap.size, 2, none⟩) (by show w5.heap.size < W.heap.size; omega)).trans t2; have v3 := (hb4.cell (p := ⟨w5.heap.size, 3, none⟩) (by show w5.heap.size < W.heap.size; omega)).trans t3; clear hown2 hg2)
          | (refine step_app (by rfl) (.tmp 19) (.tmp 21) _ (by rfl) W.heap.size 68 _ 4 56 Try.underlying25 info_Item rfl (by omega) T1 (some ⟨W.heap.size, 0, none⟩) cur.length cap1 1 1 _ (cE 4 encItem cur) (encItem p) (by simp [go_sem]) (by simp [go_sem]) hown1' hpx (fun _ _ => encItem_one _ _) (by simp only [maxLen]; omega) (by omega) (by first | omega | (simp; done) | (simp; omega)) ?_; intro T2 cap2 w4 hown2 hg2; have hb4 := grown_below hg2 (fun b hb => (Own.lt hown1' hb).1) (by first | omega | (simp; done) | (simp; omega)); have hown2' := OwnE.snoc (by omega) hown2; have z4 := hb4.size; have v0 := (hb4.cell (p := ⟨w5.heap.size, 0, none⟩) (by show w5.heap.size < W.heap.size; omega)).trans t0; have v1 := (hb4.cell (p := ⟨w5.heap.size, 1, none⟩) (by show w5.heap.size < W.heap.size; omega)).trans t1; have v2 := (hb4.cell (p := ⟨w5.heap.size, 2, none⟩) (by show w5.heap.size < W.heap.size; omega)).trans t2; have v3 := (hb4.cell (p := ⟨w5.heap.size, 3, none⟩) (by show w5.heap.size < W.heap.size; omega)).trans t3; clear hown2 hg2)
          | (go_at_call 19; have hcall := specFeedValid_any T2 cap2 w4.heap.size (cur ++ [p]) w4 (OwnE.rd hown2') (Nat.le_refl _) (by rw [HLQ.out]; omega) HQS.out; rw [HLQ.out, HQ.out] at hcall; have HC := Lib.hid hcall; clear hcall; refine HC.out.mono ?_; rintro e w6 ⟨rfl, hb6⟩; have z6 := hb6.size; have hb46 : Below W.heap.size w4 w6 := hb6.mono (by omega); have x0 := (hb46.cell (p := ⟨w5.heap.size, 0, none⟩) (by show w5.heap.size < W.heap.size; omega)).trans v0; have x1 := (hb46.cell (p := ⟨w5.heap.size, 1, none⟩) (by show w5.heap.size < W.heap.size; omega)).trans v1; have x2 := (hb46.cell (p := ⟨w5.heap.size, 2, none⟩) (by show w5.heap.size < W.heap.size; omega)).trans v2; have x3 := (hb46.cell (p := ⟨w5.heap.size, 3, none⟩) (by show w5.heap.size < W.heap.size; omega)).trans v3))
        all_goals
          have hbF : Below W.heap.size W w6 := (c3.trans hb4).trans hb46
          have hwF := only_below hwX hbF (by have := hwX.size; omega)
          have hrF := hrX.below hbF (by omega)
          have hownF := Own.belowB hownX hbF (fun b hb => by have := hhi.out b hb; omega)
          have hsF := hwF.size
          clear hempA hempB hempC hrA hrB hrC hbeA hbeB hbeC qa0 qa1 qa2 qa3 qb0 qb1 qb2 qb3 qc0 qc1 qc2 qc3 qp0 qp1 qp2 qp3 t0 t1 t2 t3 v0 v1 v2 v3 s0 s1 s2 s3 hxB hxC hown1' hown2' hownX hwX hrX c3 hb3 hb4 hb46 hb6 hbF
          go_wp2_with (at_builtin; refine wpList_app rfl (.tmp 24) (.tmp 26) _ rfl w.heap.size 68 _ 4 56 Try.underlying25 info_Item rfl (by omega) T (some ⟨w6.heap.size, 0, none⟩) cur.length cap 1 1 (w6.heap.size + 1) (cE 4 encItem cur) (encItem p) rfl rfl (Own.below hownF ((Below.refl _ _).alloc (Nat.le_refl _) _)) (rd_elem _ _ _ _ (fun j hj => by rcases (by omega : j = 0 ∨ j = 1 ∨ j = 2 ∨ j = 3) with rfl | rfl | rfl | rfl <;> rfl)) (fun _ _ => encItem_one _ _) (by simp only [maxLen]; omega) (by omega) (by first | omega | (simp; done) | (simp; omega)) ?_; intro T8 cap8 w8 hown8 hg8)
          go_roundw
          case rel => exact ⟨c + 1, y, T8, cap8, cur ++ [p], by omega, by go_num, by rw [List.length_append]; rfl, by rw [HLQ.out]; omega, Lib.hid (add_szI HSZ.out ⟨hp0, hp1, hp2⟩), OwnE.snoc (by omega) hown8, (hrF.below (((Below.refl _ _).alloc hsF _).trans (grown_below hg8 (fun b hb => (Own.lt hownF hb).1) (by first | omega | (simp; done) | (simp; omega)))) hlt).more (by omega), only_below hwF (((Below.refl _ _).alloc hsF _).trans (grown_below hg8 (fun b hb => (Own.lt hownF hb).1) (by first | omega | (simp; done) | (simp; omega)))) (Nat.le_refl _)⟩
          case measure => simp [intOf]
    · have hd : decide (0 < (y : Int)) = false := decide_eq_false (by omega)
      go_wp2_with fail
      refine (odd_any g _ _ _ hr (by omega) hn hn2).mono ?_
      rintro e w2 ⟨q, rfl, hr2, hg2⟩
      have hown2 := keptI hown hg2 hlt
      have hw2 := hw.trans hg2
      have hs2 := hw2.size
      clear hown hr hw hg2 hd
      cases q
      · go_wp2_with fail
        go_ret
        exact ⟨T, cap, cur, rfl, by omega, HSZ.out, hown2, hr2.more (by omega), hw2⟩
      · by_cases h0 : 0 < cur.length
        · have d0 : decide (0 < (cur.length : Int)) = true := decide_eq_true (by omega)
          have d0n : decide (0 < cur.length) = true := decide_eq_true h0
          go_wp2_with fail
          refine (pick_any g _ _ _ hr2 (by omega)).mono ?_
          rintro e w3 ⟨z, rfl, hz0, hz1, hr3, hg3⟩
          have hown3 := keptI hown2 hg3 hlt
          have hw3 := hw2.trans hg3
          have hs3 := hw3.size
          clear hown2 hw2 hr2 hg3 d0 d0n
          by_cases hz : z = 0
          · have e0 : (z == 0) = true := beq_iff_eq.2 hz
            clear hz
            rcases hown3.shape with ⟨_, hq0, _⟩ | ⟨b, rfl, hbb, hbl, hcp, hmx⟩
            · omega
            · unfold maxLen at hmx
              have c0 : w3.cell? ⟨b, 0, none⟩ = some (Value.string (gt cur 0).1) := Own.cell hown3 rfl (j := 0) (by omega)
              have c1 : w3.cell? ⟨b, 1, none⟩ = some (Value.string (gt cur 0).2.1) := Own.cell hown3 rfl (j := 1) (by omega)
              have c2 : w3.cell? ⟨b, 2, none⟩ = some (Value.string (gt cur 0).2.2.1) := Own.cell hown3 rfl (j := 2) (by omega)
              have c3 : w3.cell? ⟨b, 3, none⟩ = some (Value.int .i64 (gt cur 0).2.2.2) := Own.cell hown3 rfl (j := 3) (by omega)
              have h0i : (0 : Int) < (cur.length : Int) := by omega
              go_wp2_with (at_builtin; refine wpList_app rfl (.tmp 39) (.tmp 43) _ rfl w.heap.size 68 _ 4 56 Try.underlying25 info_Item rfl (by omega) (some ⟨b, 0, none⟩) (some ⟨w3.heap.size, 0, none⟩) cur.length cap 1 1 (w3.heap.size + 1) (cE 4 encItem cur) (encItem (gt cur 0)) rfl rfl (Own.below hown3 ((Below.refl _ _).alloc (Nat.le_refl _) _)) (rd_elem _ _ _ _ (fun j hj => by rcases (by omega : j = 0 ∨ j = 1 ∨ j = 2 ∨ j = 3) with rfl | rfl | rfl | rfl <;> rfl)) (fun _ _ => encItem_one _ _) (by simp only [maxLen]; omega) (by omega) (by first | omega | (simp; done) | (simp; omega)) ?_; intro T8 cap8 w8 hown8 hg8)
              go_ret
              exact ⟨T8, cap8, cur ++ [(gt cur 0)], by rw [List.length_append]; rfl, by rw [List.length_append, List.length_singleton]; omega, add_szI HSZ.out (HSZ.out _ (gt_mem h0)), OwnE.snoc (by omega) hown8, (hr3.below (((Below.refl _ _).alloc hs3 _).trans (grown_below hg8 (fun b hb => (Own.lt hown3 hb).1) (by first | omega | (simp; done) | (simp; omega)))) hlt).more (by omega), only_below hw3 (((Below.refl _ _).alloc hs3 _).trans (grown_below hg8 (fun b hb => (Own.lt hown3 hb).1) (by first | omega | (simp; done) | (simp; omega)))) (Nat.le_refl _)⟩
          · have e0 : (z == 0) = false := beq_eq_false_iff_ne.2 hz
            clear hz
            go_wp2_with fail
            refine (l20Item_any g _ _ _ hr3 (by omega) (by omega) (by omega)).mono ?_
            rintro e w5 ⟨p, rfl, hp0, hp1, hp2, hr5, hg5⟩
            have hown5 := keptI hown3 hg5 hlt
            have hw5 := hw3.trans hg5
            have hs5 := hw5.size
            clear hg5
            go_wp2_with (at_builtin; refine wpList_app rfl (.tmp 45) (.tmp 48) _ rfl w.heap.size 68 _ 4 56 Try.underlying25 info_Item rfl (by omega) T (some ⟨w5.heap.size, 0, none⟩) cur.length cap 1 1 (w5.heap.size + 1) (cE 4 encItem cur) (encItem p) rfl rfl (Own.below hown5 ((Below.refl _ _).alloc (Nat.le_refl _) _)) (rd_elem _ _ _ _ (fun j hj => by rcases (by omega : j = 0 ∨ j = 1 ∨ j = 2 ∨ j = 3) with rfl | rfl | rfl | rfl <;> rfl)) (fun _ _ => encItem_one _ _) (by simp only [maxLen]; omega) (by omega) (by first | omega | (simp; done) | (simp; omega)) ?_; intro T8 cap8 w8 hown8 hg8)
            go_ret
            exact ⟨T8, cap8, cur ++ [p], by rw [List.length_append]; rfl, by rw [List.length_append, List.length_singleton]; omega, add_szI HSZ.out ⟨hp0, hp1, hp2⟩, OwnE.snoc (by omega) hown8, (hr5.below (((Below.refl _ _).alloc hs5 _).trans (grown_below hg8 (fun b hb => (Own.lt hown5 hb).1) (by first | omega | (simp; done) | (simp; omega)))) hlt).more (by omega), only_below hw5 (((Below.refl _ _).alloc hs5 _).trans (grown_below hg8 (fun b hb => (Own.lt hown5 hb).1) (by first | omega | (simp; done) | (simp; omega)))) (Nat.le_refl _)⟩
        · have d0 : decide (0 < (cur.length : Int)) = false := decide_eq_false (by omega)
          have d0n : decide (0 < cur.length) = false := decide_eq_false h0
          go_wp2_with fail
          refine (l20Item_any g _ _ _ hr2 (by omega) (by omega) (by omega)).mono ?_
          rintro e w5 ⟨p, rfl, hp0, hp1, hp2, hr5, hg5⟩
          have hown5 := keptI hown2 hg5 hlt
          have hw5 := hw2.trans hg5
          have hs5 := hw5.size
          clear hg5
          go_wp2_with (at_builtin; refine wpList_app rfl (.tmp 45) (.tmp 48) _ rfl w.heap.size 68 _ 4 56 Try.underlying25 info_Item rfl (by omega) T (some ⟨w5.heap.size, 0, none⟩) cur.length cap 1 1 (w5.heap.size + 1) (cE 4 encItem cur) (encItem p) rfl rfl (Own.below hown5 ((Below.refl _ _).alloc (Nat.le_refl _) _)) (rd_elem _ _ _ _ (fun j hj => by rcases (by omega : j = 0 ∨ j = 1 ∨ j = 2 ∨ j = 3) with rfl | rfl | rfl | rfl <;> rfl)) (fun _ _ => encItem_one _ _) (by simp only [maxLen]; omega) (by omega) (by first | omega | (simp; done) | (simp; omega)) ?_; intro T8 cap8 w8 hown8 hg8)
          go_ret
          exact ⟨T8, cap8, cur ++ [p], by rw [List.length_append]; rfl, by rw [List.length_append, List.length_singleton]; omega, add_szI HSZ.out ⟨hp0, hp1, hp2⟩, OwnE.snoc (by omega) hown8, (hr5.below (((Below.refl _ _).alloc hs5 _).trans (grown_below hg8 (fun b hb => (Own.lt hown5 hb).1) (by first | omega | (simp; done) | (simp; omega)))) hlt).more (by omega), only_below hw5 (((Below.refl _ _).alloc hs5 _).trans (grown_below hg8 (fun b hb => (Own.lt hown5 hb).1) (by first | omega | (simp; done) | (simp; omega)))) (Nat.le_refl _)⟩
end Go.Proofs.Ytfnmlffpnmmcdaa
