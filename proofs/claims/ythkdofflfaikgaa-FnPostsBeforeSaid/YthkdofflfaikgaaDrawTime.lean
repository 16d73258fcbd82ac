import Derived.Test.YthkdofflfaikgaaReader
import Derived.Test.YthkdofflfaikgaaTimeF
namespace Go.Proofs.Ythkdofflfaikgaa
open Go.RowKit
theorem putOf_len40 (ps : List ElPost) (p : ElPost) : (putOf ps p).length ≤ 40 := by
  unfold putOf
  split
  · rename_i h
    split
    · rename_i h2; exact (Tv.of h2).1
    · exact (Tv.of h).1
  · simp
theorem OwnE.keptG {α : Type} [Inhabited α] {sz e base g cap : Nat} {enc : α → Nat → Value} {w w' : World} {A : Option Addr} {xs : List α} (h : OwnE sz enc e w base A cap xs) (hg : w.grownBy w' (some g)) (hlt : g < base) : OwnE sz enc e w' base A cap xs :=
  Own.kept h hg (by
    cases hT : blk A with
    | none => exact .inl rfl
    | some b => exact .inr (fun e => by injection e with e; have := (Own.lt h hT).1; omega))
/-- A timeline drawn: some list, in new memory. -/
def DrewP (g m : Nat) (w : World) (e : Ending) (w' : World) : Prop := ∃ (A : Option Addr) (cap : Nat) (xs : List ElPost), e = .returned (.slice A xs.length cap) ∧ xs.length ≤ 42 ∧ OwnE 2 encPost 33 w' w.heap.size A cap xs ∧ Rdr w' g (m + 60) ∧ w.grownBy w' (some g)
set_option maxHeartbeats 800000 in
theorem l20Timeline_any (g m : Nat) (n : Int) (w : World) (h : Rdr w g m) (hm : m ≤ 1000000) (hn : 0 ≤ n) (hn2 : n ≤ 1000000) :
    Calls Try.prog 36 #[.pointer (some ⟨g, 0, none⟩), .int .i64 n] w (DrewP g m w) := by
  have hlt := h.lt
  go_enter Try.func36, Try.ntmps36
  go_wp2_with fail
  refine (pick_any g m _ _ (h.alloc _) (by omega)).mono ?_
  rintro e w1 ⟨x, rfl, hx0, hx1, hr1, hg1⟩
  obtain ⟨y0, rfl⟩ := Int.eq_ofNat_of_zero_le hx0
  have hxb : y0 ≤ 8 := by omega
  have ho1 : OwnE 2 encPost 33 w1 w.heap.size (some ⟨w.heap.size, 0, none⟩) 0 ([] : List ElPost) := OwnE.keptG (xs := []) (Own.lit w 33 2 0 #[] (cE 2 encPost ([] : List ElPost)) (Nat.zero_le _) rfl) hg1 hlt
  have hw1 : w.grownBy w1 (some g) := (only_alloc w (some g) (World.grownBy.refl _ _) _).trans hg1
  clear hx0 hx1
  go_wp2_with fail
  have hs1 := hw1.size
  go_loopw [5, 6] (fun v i wr => ∃ (c y : Nat) (T : Option Addr) (cap : Nat) (cur : List ElPost), c + y ≤ 8 ∧ i = .int .i64 y ∧ v = .slice T cur.length cap ∧ cur.length ≤ 40 ∧ OwnE 2 encPost 33 wr w.heap.size T cap cur ∧ Rdr wr g (m + 1 + 2 * c) ∧ w.grownBy wr (some g)) (fun _ i _ => (intOf i).toNat)
  case atStart => exact ⟨0, y0, _, 0, [], by omega, rfl, rfl, by simp, ho1, hr1, hw1⟩
  case round =>
    obtain ⟨c, y, T, cap, cur, hcy, rfl, rfl, hcl, hown, hr, hw⟩ := hrel
    clear ho1 hr1 hw1 hg1
    have hsz := hw.size
    by_cases hlt2 : 0 < y
    · obtain ⟨y, rfl⟩ : ∃ z, y = z + 1 := ⟨y - 1, by omega⟩
      have hd : decide (0 < ((y + 1 : Nat) : Int)) = true := decide_eq_true (by omega)
      go_wp2_with fail
      refine (pick_any g _ _ _ hr (by omega)).mono ?_
      rintro e w2 ⟨u, rfl, hu0, hu1, hr2, hg2⟩
      go_wp2_with fail
      refine (pick_any g _ _ _ hr2 (by omega)).mono ?_
      rintro e w3 ⟨v, rfl, hv0, hv1, hr3, hg3⟩
      have hown3 := (hown.keptG hg2 hlt).keptG hg3 hlt
      have hw3 := (hw.trans hg2).trans hg3
      have hs3 := hw3.size
      go_wp2_with fail
      refine (specPutPost_any _ _ _ cur (u, v) _ (OwnE.rd hown3) (Nat.le_refl _) (by omega) (Own.shp hown3)).mono ?_
      rintro e w4 ⟨T4, cap4, rfl, ho4, hb4⟩
      have hl4 := putOf_len40 cur (u, v)
      clear hown3 hown hg2 hg3 hr2 hr
      go_wp2_with fail
      go_roundw
      case rel => exact ⟨c + 1, y, T4, cap4, putOf cur (u, v), by omega, by go_num, rfl, hl4, Own.more ho4 hs3, (hr3.below hb4 (by omega)).more (by omega), only_below hw3 hb4 hs3⟩
      case measure => simp [intOf]
    · have hd : decide (0 < (y : Int)) = false := decide_eq_false (by omega)
      go_wp2_with fail
      refine (odd_any g _ _ _ hr (by omega) (by omega) (by omega)).mono ?_
      rintro e w2 ⟨q, rfl, hr2, hg2⟩
      have hown2 := OwnE.keptG hown hg2 hlt
      have hw2 := hw.trans hg2
      have hs2 := hw2.size
      clear hown hr hw hg2 hd
      cases q
      · go_wp2_with fail
        refine (odd_any g _ _ _ hr2 (by omega) hn hn2).mono ?_
        rintro e w3 ⟨q, rfl, hr3, hg3⟩
        have hown3 := OwnE.keptG hown2 hg3 hlt
        have hw3 := hw2.trans hg3
        have hs3 := hw3.size
        clear hown2 hr2 hw2 hg3
        cases q
        · go_wp2_with fail
          go_ret
          exact ⟨T, cap, cur, rfl, by omega, hown3, hr3.more (by omega), hw3⟩
        · go_wp2_with fail
          refine (pick_any g _ _ _ ((hr3).alloc _) (by omega)).mono ?_
          rintro e w4 ⟨z, rfl, hz0, hz1, hr4, hg4⟩
          have htab := tab_cell hg4 (by omega)
          have hown4 := OwnE.keptG (Own.below hown3 ((Below.refl _ _).alloc (Nat.le_refl _) _)) hg4 hlt
          have hw4 := (only_alloc w (some g) hw3 _).trans hg4
          have hs4 := hw4.size
          have t0 := htab 0
          have t1 := htab 1
          have t2 := htab 2
          have t3 := htab 3
          have t4 := htab 4
          have t5 := htab 5
          have t6 := htab 6
          have t7 := htab 7
          clear htab hg4 hown3
          have hz : z = 0 ∨ z = 1 ∨ z = 2 ∨ z = 3 := by omega
          clear hz0 hz1
          rcases hz with rfl | rfl | rfl | rfl
          · go_wp2_with (at_builtin; refine wpList_app rfl (.tmp 44) (.tmp 55) _ rfl w.heap.size 33 _ 2 16 Try.underlying25 info_Post rfl (by omega) T (some ⟨w4.heap.size, 0, none⟩) cur.length cap 2 2 _ (cE 2 encPost cur) (cE 2 encPost ([((-1 : Int), (0 : Int)), ((99 : Int), (0 : Int))] : List ElPost)) rfl rfl (Own.below hown4 ((Below.refl _ _).alloc (Nat.le_refl _) _)) (Own.rd (Own.lit w4 33 2 2 #[encPost ((-1 : Int), (0 : Int)) 0, encPost ((-1 : Int), (0 : Int)) 1, encPost ((99 : Int), (0 : Int)) 0, encPost ((99 : Int), (0 : Int)) 1] (cE 2 encPost ([((-1 : Int), (0 : Int)), ((99 : Int), (0 : Int))] : List ElPost)) (by simp only [maxLen]; omega) rfl)) (fun _ _ => encPost_one _ _) (by simp only [maxLen]; omega) (by omega) (by simp; omega) ?_; intro T1 cap1 w5 hown5 hg5)
            go_ret
            have hb5 : Below w.heap.size w4 w5 := ((Below.refl _ _).alloc hs4 _).trans (grown_below hg5 (fun b hb => (Own.lt hown4 hb).1) (by simp; omega))
            exact ⟨T1, cap1, cur ++ ([((-1 : Int), (0 : Int)), ((99 : Int), (0 : Int))] : List ElPost), by rw [List.length_append]; rfl, by rw [List.length_append]; simp; omega, OwnE.join (by omega) rfl rfl hown5, (hr4.below hb5 hlt).more (by omega), only_below hw4 hb5 (Nat.le_refl _)⟩
          · go_wp2_with (at_builtin; refine wpList_app rfl (.tmp 44) (.tmp 55) _ rfl w.heap.size 33 _ 2 16 Try.underlying25 info_Post rfl (by omega) T (some ⟨w4.heap.size, 0, none⟩) cur.length cap 2 2 _ (cE 2 encPost cur) (cE 2 encPost ([((1000000001 : Int), (0 : Int)), ((99 : Int), (0 : Int))] : List ElPost)) rfl rfl (Own.below hown4 ((Below.refl _ _).alloc (Nat.le_refl _) _)) (Own.rd (Own.lit w4 33 2 2 #[encPost ((1000000001 : Int), (0 : Int)) 0, encPost ((1000000001 : Int), (0 : Int)) 1, encPost ((99 : Int), (0 : Int)) 0, encPost ((99 : Int), (0 : Int)) 1] (cE 2 encPost ([((1000000001 : Int), (0 : Int)), ((99 : Int), (0 : Int))] : List ElPost)) (by simp only [maxLen]; omega) rfl)) (fun _ _ => encPost_one _ _) (by simp only [maxLen]; omega) (by omega) (by simp; omega) ?_; intro T1 cap1 w5 hown5 hg5)
            go_ret
            have hb5 : Below w.heap.size w4 w5 := ((Below.refl _ _).alloc hs4 _).trans (grown_below hg5 (fun b hb => (Own.lt hown4 hb).1) (by simp; omega))
            exact ⟨T1, cap1, cur ++ ([((1000000001 : Int), (0 : Int)), ((99 : Int), (0 : Int))] : List ElPost), by rw [List.length_append]; rfl, by rw [List.length_append]; simp; omega, OwnE.join (by omega) rfl rfl hown5, (hr4.below hb5 hlt).more (by omega), only_below hw4 hb5 (Nat.le_refl _)⟩
          · go_wp2_with (at_builtin; refine wpList_app rfl (.tmp 44) (.tmp 55) _ rfl w.heap.size 33 _ 2 16 Try.underlying25 info_Post rfl (by omega) T (some ⟨w4.heap.size, 0, none⟩) cur.length cap 2 2 _ (cE 2 encPost cur) (cE 2 encPost ([((99 : Int), (-1 : Int)), ((99 : Int), (0 : Int))] : List ElPost)) rfl rfl (Own.below hown4 ((Below.refl _ _).alloc (Nat.le_refl _) _)) (Own.rd (Own.lit w4 33 2 2 #[encPost ((99 : Int), (-1 : Int)) 0, encPost ((99 : Int), (-1 : Int)) 1, encPost ((99 : Int), (0 : Int)) 0, encPost ((99 : Int), (0 : Int)) 1] (cE 2 encPost ([((99 : Int), (-1 : Int)), ((99 : Int), (0 : Int))] : List ElPost)) (by simp only [maxLen]; omega) rfl)) (fun _ _ => encPost_one _ _) (by simp only [maxLen]; omega) (by omega) (by simp; omega) ?_; intro T1 cap1 w5 hown5 hg5)
            go_ret
            have hb5 : Below w.heap.size w4 w5 := ((Below.refl _ _).alloc hs4 _).trans (grown_below hg5 (fun b hb => (Own.lt hown4 hb).1) (by simp; omega))
            exact ⟨T1, cap1, cur ++ ([((99 : Int), (-1 : Int)), ((99 : Int), (0 : Int))] : List ElPost), by rw [List.length_append]; rfl, by rw [List.length_append]; simp; omega, OwnE.join (by omega) rfl rfl hown5, (hr4.below hb5 hlt).more (by omega), only_below hw4 hb5 (Nat.le_refl _)⟩
          · go_wp2_with (at_builtin; refine wpList_app rfl (.tmp 44) (.tmp 55) _ rfl w.heap.size 33 _ 2 16 Try.underlying25 info_Post rfl (by omega) T (some ⟨w4.heap.size, 0, none⟩) cur.length cap 2 2 _ (cE 2 encPost cur) (cE 2 encPost ([((99 : Int), (0 : Int)), ((99 : Int), (0 : Int))] : List ElPost)) rfl rfl (Own.below hown4 ((Below.refl _ _).alloc (Nat.le_refl _) _)) (Own.rd (Own.lit w4 33 2 2 #[encPost ((99 : Int), (0 : Int)) 0, encPost ((99 : Int), (0 : Int)) 1, encPost ((99 : Int), (0 : Int)) 0, encPost ((99 : Int), (0 : Int)) 1] (cE 2 encPost ([((99 : Int), (0 : Int)), ((99 : Int), (0 : Int))] : List ElPost)) (by simp only [maxLen]; omega) rfl)) (fun _ _ => encPost_one _ _) (by simp only [maxLen]; omega) (by omega) (by simp; omega) ?_; intro T1 cap1 w5 hown5 hg5)
            go_ret
            have hb5 : Below w.heap.size w4 w5 := ((Below.refl _ _).alloc hs4 _).trans (grown_below hg5 (fun b hb => (Own.lt hown4 hb).1) (by simp; omega))
            exact ⟨T1, cap1, cur ++ ([((99 : Int), (0 : Int)), ((99 : Int), (0 : Int))] : List ElPost), by rw [List.length_append]; rfl, by rw [List.length_append]; simp; omega, OwnE.join (by omega) rfl rfl hown5, (hr4.below hb5 hlt).more (by omega), only_below hw4 hb5 (Nat.le_refl _)⟩
      · have ho5 : OwnE 2 encPost 33 (w2.alloc (.cells #[] 33)) w.heap.size (some ⟨w2.heap.size, 0, none⟩) 0 ([] : List ElPost) := Own.more (Own.lit w2 33 2 0 #[] (cE 2 encPost ([] : List ElPost)) (Nat.zero_le _) rfl) hs2
        have hr5 := hr2.alloc (.cells #[] 33)
        have hw5 := only_alloc w (some g) hw2 (.cells #[] 33)
        clear hown2 hr2 hw2 hcl
        go_wp2_with fail
        go_loopw [5, 9] (fun v i wr => ∃ (k : Nat) (T : Option Addr) (cap : Nat) (cur : List ElPost), i = .int .i64 k ∧ v = .slice T cur.length cap ∧ cur.length + k = 40 ∧ OwnE 2 encPost 33 wr w.heap.size T cap cur ∧ Rdr wr g (m + 50) ∧ w.grownBy wr (some g)) (fun _ i _ => (intOf i).toNat)
        case atStart => exact ⟨40, _, 0, [], rfl, rfl, rfl, ho5, hr5.more (by omega), hw5⟩
        case round =>
          clear ho5 hr5 hw5
          obtain ⟨k, T', cap', cur', rfl, rfl, hc', hown', hr', hw'⟩ := hrel
          have hs' := hw'.size
          have hk40 : k ≤ 40 := by omega
          have hcl' : cur'.length ≤ 40 := by omega
          by_cases hk0 : 0 < k
          · obtain ⟨k, rfl⟩ : ∃ z, k = z + 1 := ⟨k - 1, by omega⟩
            have hd : decide (0 < ((k + 1 : Nat) : Int)) = true := decide_eq_true (by omega)
            go_wp2_with (at_builtin; refine wpList_app rfl (.tmp 35) (.tmp 39) _ rfl w.heap.size 33 _ 2 16 Try.underlying25 info_Post rfl (by omega) T' (some ⟨wr.heap.size, 0, none⟩) cur'.length cap' 1 1 _ (cE 2 encPost cur') (encPost ((((k : Int) + 1) * 2, 0) : ElPost)) rfl rfl (Own.below hown' ((Below.refl _ _).alloc (Nat.le_refl _) _)) (rd_elem _ _ _ _ (fun j hj => by rcases (by omega : j = 0 ∨ j = 1) with rfl | rfl <;> rfl)) (fun _ _ => encPost_one _ _) (by simp only [maxLen]; omega) (by omega) (by simp; omega) ?_; intro T1 cap1 w4 hown4 hg4)
            have hb4 : Below w.heap.size wr w4 := ((Below.refl _ _).alloc hs' _).trans (grown_below hg4 (fun b hb => (Own.lt hown' hb).1) (by simp; omega))
            go_roundw
            case rel => exact ⟨k, T1, cap1, cur' ++ [(((k : Int) + 1) * 2, 0)], by go_num, by rw [List.length_append]; rfl, by rw [List.length_append]; simp; omega, OwnE.push (by omega) rfl hown4, hr'.below hb4 hlt, only_below hw' hb4 (Nat.le_refl _)⟩
            case measure => simp [intOf]
          · have hd : decide (0 < (k : Int)) = false := decide_eq_false (by omega)
            go_wp2_with fail
            refine (odd_any g _ _ _ hr' (by omega) hn hn2).mono ?_
            rintro e w3 ⟨q, rfl, hr3, hg3⟩
            have hown3 := OwnE.keptG hown' hg3 hlt
            have hw3 := hw'.trans hg3
            have hs3 := hw3.size
            clear hown' hr' hw' hg3
            cases q
            · go_wp2_with fail
              go_ret
              exact ⟨T', cap', cur', rfl, by omega, hown3, hr3.more (by omega), hw3⟩
            · go_wp2_with fail
              refine (pick_any g _ _ _ ((hr3).alloc _) (by omega)).mono ?_
              rintro e w4 ⟨z, rfl, hz0, hz1, hr4, hg4⟩
              have htab := tab_cell hg4 (by omega)
              have hown4 := OwnE.keptG (Own.below hown3 ((Below.refl _ _).alloc (Nat.le_refl _) _)) hg4 hlt
              have hw4 := (only_alloc w (some g) hw3 _).trans hg4
              have hs4 := hw4.size
              have t0 := htab 0
              have t1 := htab 1
              have t2 := htab 2
              have t3 := htab 3
              have t4 := htab 4
              have t5 := htab 5
              have t6 := htab 6
              have t7 := htab 7
              clear htab hg4 hown3
              have hz : z = 0 ∨ z = 1 ∨ z = 2 ∨ z = 3 := by omega
              clear hz0 hz1
              rcases hz with rfl | rfl | rfl | rfl
              · go_wp2_with (at_builtin; refine wpList_app rfl (.tmp 44) (.tmp 55) _ rfl w.heap.size 33 _ 2 16 Try.underlying25 info_Post rfl (by omega) T' (some ⟨w4.heap.size, 0, none⟩) cur'.length cap' 2 2 _ (cE 2 encPost cur') (cE 2 encPost ([((-1 : Int), (0 : Int)), ((99 : Int), (0 : Int))] : List ElPost)) rfl rfl (Own.below hown4 ((Below.refl _ _).alloc (Nat.le_refl _) _)) (Own.rd (Own.lit w4 33 2 2 #[encPost ((-1 : Int), (0 : Int)) 0, encPost ((-1 : Int), (0 : Int)) 1, encPost ((99 : Int), (0 : Int)) 0, encPost ((99 : Int), (0 : Int)) 1] (cE 2 encPost ([((-1 : Int), (0 : Int)), ((99 : Int), (0 : Int))] : List ElPost)) (by simp only [maxLen]; omega) rfl)) (fun _ _ => encPost_one _ _) (by simp only [maxLen]; omega) (by omega) (by simp; omega) ?_; intro T1 cap1 w5 hown5 hg5)
                go_ret
                have hb5 : Below w.heap.size w4 w5 := ((Below.refl _ _).alloc hs4 _).trans (grown_below hg5 (fun b hb => (Own.lt hown4 hb).1) (by simp; omega))
                exact ⟨T1, cap1, cur' ++ ([((-1 : Int), (0 : Int)), ((99 : Int), (0 : Int))] : List ElPost), by rw [List.length_append]; rfl, by rw [List.length_append]; simp; omega, OwnE.join (by omega) rfl rfl hown5, (hr4.below hb5 hlt).more (by omega), only_below hw4 hb5 (Nat.le_refl _)⟩
              · go_wp2_with (at_builtin; refine wpList_app rfl (.tmp 44) (.tmp 55) _ rfl w.heap.size 33 _ 2 16 Try.underlying25 info_Post rfl (by omega) T' (some ⟨w4.heap.size, 0, none⟩) cur'.length cap' 2 2 _ (cE 2 encPost cur') (cE 2 encPost ([((1000000001 : Int), (0 : Int)), ((99 : Int), (0 : Int))] : List ElPost)) rfl rfl (Own.below hown4 ((Below.refl _ _).alloc (Nat.le_refl _) _)) (Own.rd (Own.lit w4 33 2 2 #[encPost ((1000000001 : Int), (0 : Int)) 0, encPost ((1000000001 : Int), (0 : Int)) 1, encPost ((99 : Int), (0 : Int)) 0, encPost ((99 : Int), (0 : Int)) 1] (cE 2 encPost ([((1000000001 : Int), (0 : Int)), ((99 : Int), (0 : Int))] : List ElPost)) (by simp only [maxLen]; omega) rfl)) (fun _ _ => encPost_one _ _) (by simp only [maxLen]; omega) (by omega) (by simp; omega) ?_; intro T1 cap1 w5 hown5 hg5)
                go_ret
                have hb5 : Below w.heap.size w4 w5 := ((Below.refl _ _).alloc hs4 _).trans (grown_below hg5 (fun b hb => (Own.lt hown4 hb).1) (by simp; omega))
                exact ⟨T1, cap1, cur' ++ ([((1000000001 : Int), (0 : Int)), ((99 : Int), (0 : Int))] : List ElPost), by rw [List.length_append]; rfl, by rw [List.length_append]; simp; omega, OwnE.join (by omega) rfl rfl hown5, (hr4.below hb5 hlt).more (by omega), only_below hw4 hb5 (Nat.le_refl _)⟩
              · go_wp2_with (at_builtin; refine wpList_app rfl (.tmp 44) (.tmp 55) _ rfl w.heap.size 33 _ 2 16 Try.underlying25 info_Post rfl (by omega) T' (some ⟨w4.heap.size, 0, none⟩) cur'.length cap' 2 2 _ (cE 2 encPost cur') (cE 2 encPost ([((99 : Int), (-1 : Int)), ((99 : Int), (0 : Int))] : List ElPost)) rfl rfl (Own.below hown4 ((Below.refl _ _).alloc (Nat.le_refl _) _)) (Own.rd (Own.lit w4 33 2 2 #[encPost ((99 : Int), (-1 : Int)) 0, encPost ((99 : Int), (-1 : Int)) 1, encPost ((99 : Int), (0 : Int)) 0, encPost ((99 : Int), (0 : Int)) 1] (cE 2 encPost ([((99 : Int), (-1 : Int)), ((99 : Int), (0 : Int))] : List ElPost)) (by simp only [maxLen]; omega) rfl)) (fun _ _ => encPost_one _ _) (by simp only [maxLen]; omega) (by omega) (by simp; omega) ?_; intro T1 cap1 w5 hown5 hg5)
                go_ret
                have hb5 : Below w.heap.size w4 w5 := ((Below.refl _ _).alloc hs4 _).trans (grown_below hg5 (fun b hb => (Own.lt hown4 hb).1) (by simp; omega))
                exact ⟨T1, cap1, cur' ++ ([((99 : Int), (-1 : Int)), ((99 : Int), (0 : Int))] : List ElPost), by rw [List.length_append]; rfl, by rw [List.length_append]; simp; omega, OwnE.join (by omega) rfl rfl hown5, (hr4.below hb5 hlt).more (by omega), only_below hw4 hb5 (Nat.le_refl _)⟩
              · go_wp2_with (at_builtin; refine wpList_app rfl (.tmp 44) (.tmp 55) _ rfl w.heap.size 33 _ 2 16 Try.underlying25 info_Post rfl (by omega) T' (some ⟨w4.heap.size, 0, none⟩) cur'.length cap' 2 2 _ (cE 2 encPost cur') (cE 2 encPost ([((99 : Int), (0 : Int)), ((99 : Int), (0 : Int))] : List ElPost)) rfl rfl (Own.below hown4 ((Below.refl _ _).alloc (Nat.le_refl _) _)) (Own.rd (Own.lit w4 33 2 2 #[encPost ((99 : Int), (0 : Int)) 0, encPost ((99 : Int), (0 : Int)) 1, encPost ((99 : Int), (0 : Int)) 0, encPost ((99 : Int), (0 : Int)) 1] (cE 2 encPost ([((99 : Int), (0 : Int)), ((99 : Int), (0 : Int))] : List ElPost)) (by simp only [maxLen]; omega) rfl)) (fun _ _ => encPost_one _ _) (by simp only [maxLen]; omega) (by omega) (by simp; omega) ?_; intro T1 cap1 w5 hown5 hg5)
                go_ret
                have hb5 : Below w.heap.size w4 w5 := ((Below.refl _ _).alloc hs4 _).trans (grown_below hg5 (fun b hb => (Own.lt hown4 hb).1) (by simp; omega))
                exact ⟨T1, cap1, cur' ++ ([((99 : Int), (0 : Int)), ((99 : Int), (0 : Int))] : List ElPost), by rw [List.length_append]; rfl, by rw [List.length_append]; simp; omega, OwnE.join (by omega) rfl rfl hown5, (hr4.below hb5 hlt).more (by omega), only_below hw4 hb5 (Nat.le_refl _)⟩
/-- What was drawn off a code: a timeline, in new memory. -/
def DrawnP (w : World) (e : Ending) (w' : World) : Prop := ∃ (A : Option Addr) (cap : Nat) (xs : List ElPost), e = .returned (.slice A xs.length cap) ∧ xs.length ≤ 42 ∧ OwnE 2 encPost 33 w' w.heap.size A cap xs ∧ Below w.heap.size w w'
theorem below_of_only {a b c : World} {g : Nat} (h : Below a.heap.size a b) (k : b.grownBy c (some g)) (hg : a.heap.size ≤ g) : Below a.heap.size a c :=
  h.trans ((Below.refl _ _).grown k h.size (fun i hi => by injection hi with hi; omega))
theorem DrawTimelineValid_any (A : Option Addr) (cap B : Nat) (cs : List Int) (w : World) (h : RdU w B A cs) (hB : B ≤ w.heap.size) (hb : ∀ j, 0 ≤ PP.at_ cs j ∧ PP.at_ cs j ≤ 255) (hc : cs.length ≤ cap) (hl : cs.length ≤ 1048576) :
    Calls Try.prog 16 #[.slice A cs.length cap] w (DrawnP w) := by
  go_enter Try.func16, Try.ntmps16
  go_wp2_with fail
  refine (l20Open_any A cap B cs w h hB hb hc hl).mono ?_
  rintro e w1 ⟨rfl, hr1, hb1⟩
  go_wp2_with fail
  refine (l20Timeline_any _ 0 _ _ hr1 (by omega) (by omega) (by omega)).mono ?_
  rintro e w2 ⟨T, cap', xs, rfl, hx, hown, hr2, hg2⟩
  go_wp2_with fail
  go_ret
  exact ⟨T, cap', xs, rfl, hx, Own.more hown hb1.size, below_of_only hb1 hg2 (Nat.le_refl _)⟩
end Go.Proofs.Ythkdofflfaikgaa
