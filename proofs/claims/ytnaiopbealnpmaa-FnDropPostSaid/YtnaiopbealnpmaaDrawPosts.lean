import Derived.Test.YtnaiopbealnpmaaReader
import Derived.Test.YtnaiopbealnpmaaInts
namespace Go.Proofs.Ytnaiopbealnpmaa
open Go.RowKit PP
/-- Posts drawn: some list, in new memory. -/
def DrewI (g m : Nat) (w : World) (e : Ending) (w' : World) : Prop := ∃ (A : Option Addr) (cap : Nat) (xs : List Int), e = .returned (.slice A xs.length cap) ∧ xs.length ≤ 20 ∧ OwnI w' w.heap.size A cap xs ∧ Rdr w' g (m + 60) ∧ w.grownBy w' (some g)
theorem l20Posts_any (g m : Nat) (n : Int) (w : World) (h : Rdr w g m) (hm : m ≤ 1000000) (hn : 0 ≤ n) (hn2 : n ≤ 1000000) :
    Calls Try.prog 37 #[.pointer (some ⟨g, 0, none⟩), .int .i64 n] w (DrewI g m w) := by
  have hlt := h.lt
  go_enter Try.func37, Try.ntmps37
  go_wp2_with fail
  refine (pick_any g m _ _ (h.alloc _) (by omega)).mono ?_
  rintro e w1 ⟨x, rfl, hx0, hx1, hr1, hg1⟩
  have hxb : x ≤ 12 := by omega
  have ho1 : OwnI w1 w.heap.size (some ⟨w.heap.size, 0, none⟩) 0 [] := Own.kept (Own.lit w 3 1 0 #[] (cI []) (Nat.zero_le _) rfl) hg1 (.inr (by simp [blk]; omega))
  have hw1 : w.grownBy w1 (some g) := (only_alloc w (some g) (World.grownBy.refl _ _) _).trans hg1
  go_wp2_with fail
  have hs1 := hw1.size
  go_loopw [5, 7] (fun v i wr => ∃ (k : Nat) (T : Option Addr) (cap : Nat) (cur : List Int), (k : Int) ≤ x ∧ k ≤ 12 ∧ i = .int .i64 k ∧ v = .slice T cur.length cap ∧ cur.length = k ∧ OwnI wr w.heap.size T cap cur ∧ Rdr wr g (m + 1 + k) ∧ w.grownBy wr (some g)) (fun _ i _ => 12 - (intOf i).toNat)
  case atStart => exact ⟨0, _, 0, [], by omega, by omega, rfl, rfl, rfl, ho1, hr1, hw1⟩
  case round =>
    obtain ⟨k, T, cap, cur, hkx, hk, rfl, rfl, hcl, hown, hr, hw⟩ := hrel
    have HL := Lib.hid hcl
    have hcl2 : cur.length ≤ 12 := by omega
    clear hcl ho1 hr1 hw1 hg1
    have hsz := hw.size
    by_cases hlt2 : (k : Int) < x
    · go_wp2_with fail
      refine (pick_any g _ _ _ hr (by omega)).mono ?_
      rintro e w2 ⟨y, rfl, hy0, hy1, hr2, hg2⟩
      have hyb : y ≤ 20 := by omega
      have hown2 : OwnI w2 w.heap.size T cap cur := Own.kept hown hg2 (by
        cases hT : blk T with
        | none => exact .inl rfl
        | some b => exact .inr (fun e => by injection e with e; have := (hown.lt hT).1; omega))
      have hw2 := hw.trans hg2
      have hs2 := hw2.size
      go_wp2_with (at_builtin; refine wpList_app rfl (.tmp 16) (.tmp 22) _ rfl w.heap.size 3 (.int .i64 0) 1 8 Try.underlying22 info_int rfl (by omega) T (some ⟨w2.heap.size, 0, none⟩) cur.length cap 1 1 (w2.heap.size + 1) (cI cur) (fun _ => .int .i64 (y - 1)) rfl rfl (Own.below hown2 ((Below.refl _ _).alloc (Nat.le_refl _) _)) (rd_one _ _ _) (fun _ _ => rfl) (by simp only [maxLen]; omega) (by omega) (by simp; omega) ?_; intro T1 cap1 w3 hown3 hg3)
      have hb3 : Below w.heap.size w2 w3 := ((Below.refl _ _).alloc hs2 _).trans (grown_below hg3 (fun b hb => (hown2.lt hb).1) (by simp; omega))
      go_roundw
      case rel => exact ⟨k + 1, T1, cap1, cur ++ [y - 1], by omega, by omega, by go_num, by rw [List.length_append]; rfl, by rw [List.length_append, HL.out]; rfl, OwnI.snoc hown3, by rw [← Nat.add_assoc]; exact hr2.below hb3 hlt, only_below hw2 hb3 (Nat.le_refl _)⟩
      case measure => simp [intOf]; omega
    · go_wp2_with fail
      refine (odd_any g _ _ _ hr (by omega) hn hn2).mono ?_
      rintro e w2 ⟨q, rfl, hr2, hg2⟩
      have hown2 : OwnI w2 w.heap.size T cap cur := Own.kept hown hg2 (by
        cases hT : blk T with
        | none => exact .inl rfl
        | some b => exact .inr (fun e => by injection e with e; have := (hown.lt hT).1; omega))
      have hw2 := hw.trans hg2
      have hs2 := hw2.size
      cases q
      · go_wp2_with fail
        refine (odd_any g _ _ _ hr2 (by omega) (by omega) (by omega)).mono ?_
        rintro e w3 ⟨q, rfl, hr3, hg3⟩
        have hown3 : OwnI w3 w.heap.size T cap cur := Own.kept hown2 hg3 (by
          cases hT : blk T with
          | none => exact .inl rfl
          | some b => exact .inr (fun e => by injection e with e; have := (hown.lt hT).1; omega))
        have hw3 := hw2.trans hg3
        cases q
        · go_wp2_with fail
          go_ret
          exact ⟨T, cap, cur, rfl, by omega, hown3, hr3.more (by omega), hw3⟩
        · go_wp2_with fail
          go_loopw [5] (fun v wr => ∃ (T : Option Addr) (cap : Nat) (cur : List Int), v = .slice T cur.length cap ∧ cur.length ≤ 17 ∧ OwnI wr w.heap.size T cap cur ∧ Rdr wr g (m + 60) ∧ w.grownBy wr (some g)) (fun v _ => match v with | .slice _ n _ => 20 - n | _ => 0)
          case atStart => exact ⟨T, cap, cur, rfl, by omega, hown3, hr3.more (by omega), hw3⟩
          case round =>
            clear hown3 hr3 hw3 hg3 hown2 hr2 hw2 hg2 hown hr hw
            obtain ⟨T', cap', cur', rfl, hc', hown', hr', hw'⟩ := hrel
            have hs' := hw'.size
            by_cases hle : cur'.length ≤ 16
            · go_wp2_with (at_builtin; refine wpList_app rfl (.tmp 42) (.tmp 43) _ rfl w.heap.size 3 (.int .i64 0) 1 8 Try.underlying22 info_int rfl (by omega) T' (some ⟨wr.heap.size, 0, none⟩) cur'.length cap' 1 1 (wr.heap.size + 1) (cI cur') (fun _ => .int .i64 (-1)) rfl rfl (Own.below hown' ((Below.refl _ _).alloc (Nat.le_refl _) _)) (rd_one _ _ _) (fun _ _ => rfl) (by simp only [maxLen]; omega) (by omega) (by simp; omega) ?_; intro T1 cap1 w4 hown4 hg4)
              have hb4 : Below w.heap.size wr w4 := ((Below.refl _ _).alloc hs' _).trans (grown_below hg4 (fun b hb => (hown'.lt hb).1) (by simp; omega))
              go_roundw
              case rel => exact ⟨T1, cap1, cur' ++ [-1], by rw [List.length_append]; rfl, by rw [List.length_append]; simp; omega, OwnI.snoc hown4, hr'.below hb4 hlt, only_below hw' hb4 (Nat.le_refl _)⟩
              case measure => simp; omega
            · go_wp2_with fail
              go_ret
              exact ⟨T', cap', cur', rfl, by omega, hown', hr', hw'⟩
      · go_wp2_with fail
        refine (pick_any g _ _ _ (hr2.alloc _) (by omega)).mono ?_
        rintro e w3 ⟨y, rfl, hy0, hy1, hr3, hg3⟩
        have htab := tab_cell hg3 (by omega)
        have hown3 : OwnI w3 w.heap.size T cap cur := Own.kept (Own.below hown2 ((Below.refl _ _).alloc (Nat.le_refl _) _)) hg3 (by
          cases hT : blk T with
          | none => exact .inl rfl
          | some b => exact .inr (fun e => by injection e with e; have := (hown.lt hT).1; omega))
        have hw3 := (only_alloc w (some g) hw2 _).trans hg3
        have hs3 := hw3.size
        have t0 := htab 0
        have t1 := htab 1
        have t2 := htab 2
        clear htab
        have hy : y = 0 ∨ y = 1 ∨ y = 2 := by omega
        rcases hy with rfl | rfl | rfl
        · go_wp2_with (at_builtin; refine wpList_app rfl (.tmp 27) (.tmp 35) _ rfl w.heap.size 3 (.int .i64 0) 1 8 Try.underlying22 info_int rfl (by omega) T (some ⟨w3.heap.size, 0, none⟩) cur.length cap 1 1 (w3.heap.size + 1) (cI cur) (fun _ => .int .i64 (-2)) rfl rfl (Own.below hown3 ((Below.refl _ _).alloc (Nat.le_refl _) _)) (rd_one _ _ _) (fun _ _ => rfl) (by simp only [maxLen]; omega) (by omega) (by simp; omega) ?_; intro T1 cap1 w4 hown4 hg4)
          go_ret
          have hb4 : Below w.heap.size w3 w4 := ((Below.refl _ _).alloc hs3 _).trans (grown_below hg4 (fun b hb => (hown3.lt hb).1) (by simp; omega))
          exact ⟨T1, cap1, cur ++ [-2], by rw [List.length_append]; rfl, by rw [List.length_append]; simp; omega, OwnI.snoc hown4, (hr3.below hb4 hlt).more (by omega), only_below hw3 hb4 (Nat.le_refl _)⟩
        · go_wp2_with (at_builtin; refine wpList_app rfl (.tmp 27) (.tmp 35) _ rfl w.heap.size 3 (.int .i64 0) 1 8 Try.underlying22 info_int rfl (by omega) T (some ⟨w3.heap.size, 0, none⟩) cur.length cap 1 1 (w3.heap.size + 1) (cI cur) (fun _ => .int .i64 cur.length) rfl rfl (Own.below hown3 ((Below.refl _ _).alloc (Nat.le_refl _) _)) (rd_one _ _ _) (fun _ _ => rfl) (by simp only [maxLen]; omega) (by omega) (by simp; omega) ?_; intro T1 cap1 w4 hown4 hg4)
          go_ret
          have hb4 : Below w.heap.size w3 w4 := ((Below.refl _ _).alloc hs3 _).trans (grown_below hg4 (fun b hb => (hown3.lt hb).1) (by simp; omega))
          exact ⟨T1, cap1, cur ++ [(cur.length : Int)], by rw [List.length_append]; rfl, by rw [List.length_append]; simp; omega, OwnI.snoc hown4, (hr3.below hb4 hlt).more (by omega), only_below hw3 hb4 (Nat.le_refl _)⟩
        · go_wp2_with (at_builtin; refine wpList_app rfl (.tmp 27) (.tmp 35) _ rfl w.heap.size 3 (.int .i64 0) 1 8 Try.underlying22 info_int rfl (by omega) T (some ⟨w3.heap.size, 0, none⟩) cur.length cap 1 1 (w3.heap.size + 1) (cI cur) (fun _ => .int .i64 99) rfl rfl (Own.below hown3 ((Below.refl _ _).alloc (Nat.le_refl _) _)) (rd_one _ _ _) (fun _ _ => rfl) (by simp only [maxLen]; omega) (by omega) (by simp; omega) ?_; intro T1 cap1 w4 hown4 hg4)
          go_ret
          have hb4 : Below w.heap.size w3 w4 := ((Below.refl _ _).alloc hs3 _).trans (grown_below hg4 (fun b hb => (hown3.lt hb).1) (by simp; omega))
          exact ⟨T1, cap1, cur ++ [99], by rw [List.length_append]; rfl, by rw [List.length_append]; simp; omega, OwnI.snoc hown4, (hr3.below hb4 hlt).more (by omega), only_below hw3 hb4 (Nat.le_refl _)⟩
/-- What was drawn off a code: some list, in new memory. -/
def DrawnI (w : World) (e : Ending) (w' : World) : Prop := ∃ (A : Option Addr) (cap : Nat) (xs : List Int), e = .returned (.slice A xs.length cap) ∧ xs.length ≤ 20 ∧ OwnI w' w.heap.size A cap xs ∧ Below w.heap.size w w'
theorem below_of_only {a b c : World} {g : Nat} (h : Below a.heap.size a b) (k : b.grownBy c (some g)) (hg : a.heap.size ≤ g) : Below a.heap.size a c :=
  h.trans ((Below.refl _ _).grown k h.size (fun i hi => by injection hi with hi; omega))
theorem DrawPostsValid_any (A : Option Addr) (cap B : Nat) (cs : List Int) (w : World) (h : RdU w B A cs) (hB : B ≤ w.heap.size) (hb : ∀ j, 0 ≤ at_ cs j ∧ at_ cs j ≤ 255) (hc : cs.length ≤ cap) (hl : cs.length ≤ 1048576) :
    Calls Try.prog 25 #[.slice A cs.length cap] w (DrawnI w) := by
  go_enter Try.func25, Try.ntmps25
  go_wp2_with fail
  refine (l20Open_any A cap B cs w h hB hb hc hl).mono ?_
  rintro e w1 ⟨rfl, hr1, hb1⟩
  go_wp2_with fail
  refine (l20Posts_any _ 0 _ _ hr1 (by omega) (by omega) (by omega)).mono ?_
  rintro e w2 ⟨T, cap', xs, rfl, hx, hown, hr2, hg2⟩
  go_wp2_with fail
  go_ret
  exact ⟨T, cap', xs, rfl, hx, Own.more hown hb1.size, below_of_only hb1 hg2 (Nat.le_refl _)⟩
def DrawnIN (w : World) (e : Ending) (w' : World) : Prop := ∃ (A : Option Addr) (cap : Nat) (xs : List Int) (n : Int), e = .returned (.tuple #[.slice A xs.length cap, .int .i64 n]) ∧ xs.length ≤ 20 ∧ OwnI w' w.heap.size A cap xs ∧ Below w.heap.size w w' ∧ -100 ≤ n ∧ n ≤ 100
theorem l20At_any (A : Option Addr) (cap B : Nat) (cs : List Int) (w : World) (h : RdU w B A cs) (hB : B ≤ w.heap.size) (hb : ∀ j, 0 ≤ at_ cs j ∧ at_ cs j ≤ 255) (hc : cs.length ≤ cap) (hl : cs.length ≤ 1048576) :
    Calls Try.prog 40 #[.slice A cs.length cap] w (DrawnIN w) := by
  go_enter Try.func40, Try.ntmps40
  go_wp2_with fail
  refine (l20Open_any A cap B cs w h hB hb hc hl).mono ?_
  rintro e w1 ⟨rfl, hr1, hb1⟩
  go_wp2_with fail
  refine (l20Posts_any _ 0 _ _ hr1 (by omega) (by omega) (by omega)).mono ?_
  rintro e w2 ⟨T, cap', xs, rfl, hx, hown, hr2, hg2⟩
  have ht : ∀ b, blk T = some b → w.heap.size < b := fun b hb => by have := (hown.lt hb).1; have := hr1.lt; omega
  go_wp2_with fail
  refine (pick_any _ _ _ _ hr2 (by omega)).mono ?_
  rintro e w3 ⟨y, rfl, hy0, hy1, hr3, hg3⟩
  have hy2 : y ≤ 50 := by omega
  go_wp2_with fail
  refine (pick_any _ _ _ _ hr3 (by omega)).mono ?_
  rintro e w4 ⟨z, rfl, hz0, hz1, hr4, hg4⟩
  have hz2 : z ≤ 14 := by omega
  have hq0 : 0 ≤ z / 13 := by omega
  have hq1 : z / 13 ≤ 2 := by omega
  go_wp2_with fail
  go_ret2
  have hne : ∀ {k : Nat}, blk T = none ∨ blk T ≠ some w.heap.size := fun {_} => by
    cases hT : blk T with
    | none => exact .inl rfl
    | some b => exact .inr (fun e => by injection e with e; have := ht b hT; omega)
  exact ⟨T, cap', xs, _, rfl, hx, Own.more (Own.kept (Own.kept hown hg3 (hne (k := 0))) hg4 (hne (k := 0))) hb1.size, below_of_only hb1 ((hg2.trans hg3).trans hg4) (Nat.le_refl _), by omega, by omega⟩
theorem DrawRootOf_any (A : Option Addr) (cap B : Nat) (cs : List Int) (w : World) (h : RdU w B A cs) (hB : B ≤ w.heap.size) (hb : ∀ j, 0 ≤ at_ cs j ∧ at_ cs j ≤ 255) (hc : cs.length ≤ cap) (hl : cs.length ≤ 1048576) :
    Calls Try.prog 29 #[.slice A cs.length cap] w (DrawnIN w) := by
  go_enter Try.func29, Try.ntmps29
  go_wp2_with fail
  refine (l20At_any A cap B cs w h hB hb hc hl).mono ?_
  rintro e w1 ⟨T, cap', xs, n, rfl, hx, hown, hb1, h1, h2⟩
  go_wp2_with fail
  go_ret2
  exact ⟨T, cap', xs, n, rfl, hx, hown, hb1, h1, h2⟩
theorem DrawDepthOf_any (A : Option Addr) (cap B : Nat) (cs : List Int) (w : World) (h : RdU w B A cs) (hB : B ≤ w.heap.size) (hb : ∀ j, 0 ≤ at_ cs j ∧ at_ cs j ≤ 255) (hc : cs.length ≤ cap) (hl : cs.length ≤ 1048576) :
    Calls Try.prog 30 #[.slice A cs.length cap] w (DrawnIN w) := by
  go_enter Try.func30, Try.ntmps30
  go_wp2_with fail
  refine (l20At_any A cap B cs w h hB hb hc hl).mono ?_
  rintro e w1 ⟨T, cap', xs, n, rfl, hx, hown, hb1, h1, h2⟩
  go_wp2_with fail
  go_ret2
  exact ⟨T, cap', xs, n, rfl, hx, hown, hb1, h1, h2⟩
theorem DrawThreadOf_any (A : Option Addr) (cap B : Nat) (cs : List Int) (w : World) (h : RdU w B A cs) (hB : B ≤ w.heap.size) (hb : ∀ j, 0 ≤ at_ cs j ∧ at_ cs j ≤ 255) (hc : cs.length ≤ cap) (hl : cs.length ≤ 1048576) :
    Calls Try.prog 31 #[.slice A cs.length cap] w (DrawnIN w) := by
  go_enter Try.func31, Try.ntmps31
  go_wp2_with fail
  refine (l20At_any A cap B cs w h hB hb hc hl).mono ?_
  rintro e w1 ⟨T, cap', xs, n, rfl, hx, hown, hb1, h1, h2⟩
  go_wp2_with fail
  go_ret2
  exact ⟨T, cap', xs, n, rfl, hx, hown, hb1, h1, h2⟩
theorem DrawDropPost_any (A : Option Addr) (cap B : Nat) (cs : List Int) (w : World) (h : RdU w B A cs) (hB : B ≤ w.heap.size) (hb : ∀ j, 0 ≤ at_ cs j ∧ at_ cs j ≤ 255) (hc : cs.length ≤ cap) (hl : cs.length ≤ 1048576) :
    Calls Try.prog 33 #[.slice A cs.length cap] w (DrawnIN w) := by
  go_enter Try.func33, Try.ntmps33
  go_wp2_with fail
  refine (l20At_any A cap B cs w h hB hb hc hl).mono ?_
  rintro e w1 ⟨T, cap', xs, n, rfl, hx, hown, hb1, h1, h2⟩
  go_wp2_with fail
  go_ret2
  exact ⟨T, cap', xs, n, rfl, hx, hown, hb1, h1, h2⟩
end Go.Proofs.Ytnaiopbealnpmaa
