/- The draws of followers. -/
import Derived.Test.YtfnmlffpnmmcdaaDrawHandle
import Derived.Test.YtfnmlffpnmmcdaaFollowF
import Derived.Test.YtfnmlffpnmmcdaaFolPlain
namespace Go.Proofs.Ytfnmlffpnmmcdaa
open Go.RowKit
theorem folOf_sz9 {fs : List ElHandle} {h : ElHandle} (hf : ∀ x ∈ fs, x.1.size ≤ 9 ∧ x.2.size ≤ 9) (hh : h.1.size ≤ 9 ∧ h.2.size ≤ 9) : ∀ x ∈ folOf fs h, x.1.size ≤ 9 ∧ x.2.size ≤ 9 := fun x hx => by
  rcases folOf_mem hx with k | rfl
  · exact hf x k
  · exact hh
theorem sz9 {s : ByteArray} (h : s.size ≤ 9) : s.size ≤ maxLen := by simp only [maxLen]; omega
theorem szH_max {xs : List ElHandle} (h : ∀ x ∈ xs, x.1.size ≤ 9 ∧ x.2.size ≤ 9) : ∀ k, k < xs.length → (gt xs k).1.size ≤ maxLen ∧ (gt xs k).2.size ≤ maxLen := fun k hk =>
  have q := h _ (gt_mem hk); ⟨sz9 q.1, sz9 q.2⟩
theorem add_szH {xs : List ElHandle} (h : ∀ x ∈ xs, x.1.size ≤ 9 ∧ x.2.size ≤ 9) {y : ElHandle} (hy : y.1.size ≤ 9 ∧ y.2.size ≤ 9) : ∀ x ∈ xs ++ [y], x.1.size ≤ 9 ∧ x.2.size ≤ 9 := fun x hx => (List.mem_append.1 hx).elim (h x) (fun e => by rw [List.mem_singleton] at e; subst e; exact hy)
def DrewFs (g m : Nat) (w : World) (e : Ending) (w' : World) : Prop := ∃ (A : Option Addr) (cap : Nat) (xs : List ElHandle), e = .returned (.slice A xs.length cap) ∧ xs.length ≤ 6 ∧ (∀ x ∈ xs, x.1.size ≤ 9 ∧ x.2.size ≤ 9) ∧ OwnE 2 encHandle 24 w' w.heap.size A cap xs ∧ Rdr w' g m ∧ w.grownBy w' (some g)
set_option maxHeartbeats 1600000 in
theorem l20Fans_any (g m : Nat) (n : Int) (w : World) (h : Rdr w g m) (hm : m ≤ 800000) (hn : 0 ≤ n) (hn2 : n ≤ 1000000) :
    Calls Try.prog 34 #[.pointer (some ⟨g, 0, none⟩), .int .i64 n] w (DrewFs g (m + 40) w) := by
  have hlt := h.lt
  go_enter Try.func34, Try.ntmps34
  go_wp2_with fail
  refine (pick_any g m _ _ (h.alloc _) (by omega)).mono ?_
  rintro e w1 ⟨y, rfl, hy0, hy1, hr1, hg1⟩
  obtain ⟨y0, rfl⟩ := Int.eq_ofNat_of_zero_le hy0
  have hyb : y0 ≤ 5 := by omega
  have ho1 : OwnE 2 encHandle 24 w1 w.heap.size (some ⟨w.heap.size, 0, none⟩) 0 ([] : List ElHandle) := keptH (xs := []) (Own.lit w 24 2 0 #[] (cE 2 encHandle ([] : List ElHandle)) (Nat.zero_le _) rfl) hg1 hlt
  have hw1 := (only_alloc w (some g) (World.grownBy.refl _ _) _).trans hg1
  clear hy0 hy1 hg1
  go_wp2_with fail
  go_loopw [5, 6, 7, 8] (fun v i _ _ wr => ∃ (c y : Nat) (T : Option Addr) (cap : Nat) (cur : List ElHandle), c + y ≤ 5 ∧ i = .int .i64 y ∧ v = .slice T cur.length cap ∧ cur.length ≤ c ∧ Hid (∀ x ∈ cur, x.1.size ≤ 9 ∧ x.2.size ≤ 9) ∧ OwnE 2 encHandle 24 wr w.heap.size T cap cur ∧ Rdr wr g (m + 1 + 6 * c) ∧ w.grownBy wr (some g)) (fun _ i _ _ _ => (intOf i).toNat)
  case atStart => exact ⟨0, y0, _, 0, [], by omega, rfl, rfl, by simp, Lib.hid (fun x hx => by cases hx), ho1, hr1, hw1⟩
  case round =>
    obtain ⟨c, y, T, cap, cur, hcy, rfl, rfl, hcl, HC, hown, hr, hw⟩ := hrel
    clear ho1 hr1 hw1
    have hsz := hw.size
    by_cases hlt2 : 0 < y
    · obtain ⟨y, rfl⟩ : ∃ z, y = z + 1 := ⟨y - 1, by omega⟩
      have hd : decide (0 < ((y + 1 : Nat) : Int)) = true := decide_eq_true (by omega)
      go_wp2_with fail
      refine (l20Handle_any g _ _ _ hr (by omega) (by omega) (by omega)).mono ?_
      rintro e w5 ⟨p, rfl, hp0, hp1, hr5, hg5⟩
      have hown5 := keptH hown hg5 hlt
      have hw5 := hw.trans hg5
      have hs5 := hw5.size
      have HS5 := Lib.hid (folOf_sz9 HC.out (h := p) ⟨hp0, hp1⟩)
      have hlf := folOf_len1 cur p
      clear hown hr hw hg5
      go_wp2_with fail
      refine (specFollow_any T cap _ cur p w5 (OwnE.rd hown5) (Nat.le_refl _) (by omega) (Own.shp hown5) (szH_max HC.out) ⟨sz9 hp0, sz9 hp1⟩).mono ?_
      rintro e w6 ⟨T6, c6, rfl, ho6, hb6⟩
      go_wp2_with fail
      go_roundw
      case rel => exact ⟨c + 1, y, T6, c6, _, by omega, by go_num, rfl, by omega, HS5, Own.more ho6 hs5, (hr5.below hb6 (by omega)).more (by omega), only_below hw5 hb6 hs5⟩
      case measure => first | (simp [intOf]; done) | (simp [intOf]; omega)
    · have hd : decide (0 < (y : Int)) = false := decide_eq_false (by omega)
      go_wp2_with fail
      refine (odd_any g _ _ _ hr (by omega) hn hn2).mono ?_
      rintro e w2 ⟨q, rfl, hr2, hg2⟩
      have hown2 := keptH hown hg2 hlt
      have hw2 := hw.trans hg2
      have hs2 := hw2.size
      clear hown hr hw hg2 hd
      cases q
      · go_wp2_with fail
        go_ret
        exact ⟨T, cap, cur, rfl, by omega, HC.out, hown2, hr2.more (by omega), hw2⟩
      · by_cases h0 : 0 < cur.length
        · have d0 : decide (0 < (cur.length : Int)) = true := decide_eq_true (by omega)
          have d0n : decide (0 < cur.length) = true := decide_eq_true h0
          go_wp2_with fail
          refine (pick_any g _ _ _ hr2 (by omega)).mono ?_
          rintro e w3 ⟨z, rfl, hz0, hz1, hr3, hg3⟩
          have hown3 := keptH hown2 hg3 hlt
          have hw3 := hw2.trans hg3
          have hs3 := hw3.size
          clear hown2 hw2 hr2 hg3 d0 d0n
          by_cases hz : z = 0
          · have e0 : (z == 0) = true := beq_iff_eq.2 hz
            clear hz
            rcases hown3.shape with ⟨_, hq0, _⟩ | ⟨b, rfl, hbb, hbl, hcp, hmx⟩
            · omega
            · unfold maxLen at hmx
              have c0 : w3.cell? ⟨b, 0, none⟩ = some (Value.string (gt cur 0).1) := Own.cell hown3 rfl (j := 0) (by omega)
              have c1 : w3.cell? ⟨b, 1, none⟩ = some (Value.string (gt cur 0).2) := Own.cell hown3 rfl (j := 1) (by omega)
              have h0i : (0 : Int) < (cur.length : Int) := by omega
              go_wp2_with (at_builtin; refine wpList_app rfl (.tmp 35) (.tmp 39) _ rfl w.heap.size 24 _ 2 32 Try.underlying26 info_Handle rfl (by omega) (some ⟨b, 0, none⟩) (some ⟨w3.heap.size, 0, none⟩) cur.length cap 1 1 (w3.heap.size + 1) (cE 2 encHandle cur) (encHandle (gt cur 0)) rfl rfl (Own.below hown3 ((Below.refl _ _).alloc (Nat.le_refl _) _)) (rd_elem _ _ _ _ (fun j hj => by rcases (by omega : j = 0 ∨ j = 1) with rfl | rfl <;> rfl)) (fun _ _ => encHandle_one _ _) (by simp only [maxLen]; omega) (by omega) (by first | omega | (simp; done) | (simp; omega)) ?_; intro T8 cap8 w8 hown8 hg8)
              go_ret
              exact ⟨T8, cap8, cur ++ [(gt cur 0)], by rw [List.length_append]; rfl, by rw [List.length_append, List.length_singleton]; omega, add_szH HC.out (HC.out _ (gt_mem h0)), OwnE.snoc (by omega) hown8, (hr3.below (((Below.refl _ _).alloc hs3 _).trans (grown_below hg8 (fun b hb => (Own.lt hown3 hb).1) (by first | omega | (simp; done) | (simp; omega)))) hlt).more (by omega), only_below hw3 (((Below.refl _ _).alloc hs3 _).trans (grown_below hg8 (fun b hb => (Own.lt hown3 hb).1) (by first | omega | (simp; done) | (simp; omega)))) (Nat.le_refl _)⟩
          · have e0 : (z == 0) = false := beq_eq_false_iff_ne.2 hz
            clear hz
            go_wp2_with (at_builtin; refine wpList_app rfl (.tmp 41) (.tmp 43) _ rfl w.heap.size 24 _ 2 32 Try.underlying26 info_Handle rfl (by omega) T (some ⟨w3.heap.size, 0, none⟩) cur.length cap 1 1 (w3.heap.size + 1) (cE 2 encHandle cur) (encHandle ({ data := #[122] }, { data := #[] })) rfl rfl (Own.below hown3 ((Below.refl _ _).alloc (Nat.le_refl _) _)) (rd_elem _ _ _ _ (fun j hj => by rcases (by omega : j = 0 ∨ j = 1) with rfl | rfl <;> rfl)) (fun _ _ => encHandle_one _ _) (by simp only [maxLen]; omega) (by omega) (by first | omega | (simp; done) | (simp; omega)) ?_; intro T8 cap8 w8 hown8 hg8)
            go_ret
            exact ⟨T8, cap8, cur ++ [({ data := #[122] }, { data := #[] })], by rw [List.length_append]; rfl, by rw [List.length_append, List.length_singleton]; omega, add_szH HC.out ⟨by decide, by decide⟩, OwnE.snoc (by omega) hown8, (hr3.below (((Below.refl _ _).alloc hs3 _).trans (grown_below hg8 (fun b hb => (Own.lt hown3 hb).1) (by first | omega | (simp; done) | (simp; omega)))) hlt).more (by omega), only_below hw3 (((Below.refl _ _).alloc hs3 _).trans (grown_below hg8 (fun b hb => (Own.lt hown3 hb).1) (by first | omega | (simp; done) | (simp; omega)))) (Nat.le_refl _)⟩
        · have d0 : decide (0 < (cur.length : Int)) = false := decide_eq_false (by omega)
          have d0n : decide (0 < cur.length) = false := decide_eq_false h0
          go_wp2_with (at_builtin; refine wpList_app rfl (.tmp 41) (.tmp 43) _ rfl w.heap.size 24 _ 2 32 Try.underlying26 info_Handle rfl (by omega) T (some ⟨w2.heap.size, 0, none⟩) cur.length cap 1 1 (w2.heap.size + 1) (cE 2 encHandle cur) (encHandle ({ data := #[122] }, { data := #[] })) rfl rfl (Own.below hown2 ((Below.refl _ _).alloc (Nat.le_refl _) _)) (rd_elem _ _ _ _ (fun j hj => by rcases (by omega : j = 0 ∨ j = 1) with rfl | rfl <;> rfl)) (fun _ _ => encHandle_one _ _) (by simp only [maxLen]; omega) (by omega) (by first | omega | (simp; done) | (simp; omega)) ?_; intro T8 cap8 w8 hown8 hg8)
          go_ret
          exact ⟨T8, cap8, cur ++ [({ data := #[122] }, { data := #[] })], by rw [List.length_append]; rfl, by rw [List.length_append, List.length_singleton]; omega, add_szH HC.out ⟨by decide, by decide⟩, OwnE.snoc (by omega) hown8, (hr2.below (((Below.refl _ _).alloc hs2 _).trans (grown_below hg8 (fun b hb => (Own.lt hown2 hb).1) (by first | omega | (simp; done) | (simp; omega)))) hlt).more (by omega), only_below hw2 (((Below.refl _ _).alloc hs2 _).trans (grown_below hg8 (fun b hb => (Own.lt hown2 hb).1) (by first | omega | (simp; done) | (simp; omega)))) (Nat.le_refl _)⟩
end Go.Proofs.Ytfnmlffpnmmcdaa
