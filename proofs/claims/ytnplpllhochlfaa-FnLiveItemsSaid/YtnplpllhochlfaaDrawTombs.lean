import Derived.Test.YtnplpllhochlfaaReader
import Derived.Test.YtnplpllhochlfaaChain
import Derived.Test.YtnplpllhochlfaaTombD
namespace Go.Proofs.Ytnplpllhochlfaa
open Go.RowKit
theorem below_of_only {a b c : World} {g : Nat} (h : Below a.heap.size a b) (k : b.grownBy c (some g)) (hg : a.heap.size ≤ g) : Below a.heap.size a c :=
  h.trans ((Below.refl _ _).grown k h.size (fun i hi => by injection hi with hi; omega))
theorem SubE.keptG {α : Type} [Inhabited α] {sz e base g cap : Nat} {enc : α → Nat → Value} {w w' : World} {A : Option Addr} {xs : List α} (h : SubE sz enc e w base A cap xs) (hg : w.grownBy w' (some g)) (hlt : g < base) : SubE sz enc e w' base A cap xs :=
  Sub.grown h hg (fun b hb => by injection hb with hb; omega)
theorem mark_size (s : ByteArray) (a b : Nat) : (s.extract a b).size ≤ s.size := by rw [ByteArray.size_extract]; omega
/-- The mark of a small number: some short text. -/
def MarkS (w : World) (e : Ending) (w' : World) : Prop := ∃ s : ByteArray, e = .returned (.string s) ∧ s.size ≤ 36 ∧ w = w'
theorem specMarkText_small (n : Int) (w : World) (h0 : 0 ≤ n) (h1 : n < 36) : Calls Try.prog 44 #[.int .i64 n] w (MarkS w) := by
  have hin := inB_true (n := n) (lo := 0) (hi := 1000000000) (by omega) (by omega)
  have hd : decide (36 ≤ n) = false := decide_eq_false (by omega)
  have hm : n % 36 = n := Int.emod_eq_of_lt h0 h1
  go_enter Try.func44, Try.ntmps44
  go_wp2_with (go_at_call 47; refine (l1In_any _ _ _ _).mono ?_; rintro e w' ⟨rfl, rfl⟩)
  refine wp_loop_rounds 1 ?_
  rw [rounds_succ]
  go_wp2_with fail
  go_ret
  exact ⟨_, rfl, mark_size _ _ _, rfl⟩
/-- Tombs drawn: some list, in new memory. -/
def DrewT (g m : Nat) (w : World) (e : Ending) (w' : World) : Prop := ∃ (A : Option Addr) (cap : Nat) (xs : List ElTomb), e = .returned (.slice A xs.length cap) ∧ xs.length ≤ 9 ∧ (∀ k, k < xs.length → (gt xs k).1.size ≤ maxLen) ∧ SubE 2 encTomb 54 w' w.heap.size A cap xs ∧ Rdr w' g (m + 60) ∧ w.grownBy w' (some g)
theorem buryOf_sz {ts : List ElTomb} {key : ByteArray} {when : Int} (h : ∀ k, k < ts.length → (gt ts k).1.size ≤ maxLen) (hw : key.size ≤ maxLen) : ∀ k, k < (buryOf ts key when).length → (gt (buryOf ts key when) k).1.size ≤ maxLen := by
  cases hc : canB ts key when
  · rw [buryOf_no hc]; intro k hk; simp at hk
  · rw [buryOf_yes hc]; exact sz_oth h hw newT_sub
theorem add_szT {ts : List ElTomb} (h : ∀ k, k < ts.length → (gt ts k).1.size ≤ maxLen) {y : ElTomb} (hy : y.1.size ≤ maxLen) : ∀ k, k < (ts ++ [y]).length → (gt (ts ++ [y]) k).1.size ≤ maxLen := fun k hk => by
  rw [gt_append]
  split
  · exact h k (by assumption)
  · rw [List.length_append, List.length_singleton] at hk
    rw [show k - ts.length = 0 by omega]; exact hy
theorem sz40 {s : ByteArray} (h : s.size ≤ 40) : s.size ≤ maxLen := by simp only [maxLen]; omega
set_option maxHeartbeats 1600000 in
theorem l20Tombs_any (g m : Nat) (n : Int) (w : World) (h : Rdr w g m) (hm : m ≤ 1000000) (hn : 0 ≤ n) (hn2 : n ≤ 1000000) :
    Calls Try.prog 24 #[.pointer (some ⟨g, 0, none⟩), .int .i64 n] w (DrewT g m w) := by
  have hlt := h.lt
  go_enter Try.func24, Try.ntmps24
  go_wp2_with fail
  refine (pick_any g m _ _ (h.alloc _) (by omega)).mono ?_
  rintro e w1 ⟨u0, rfl, hu0, hu1, hr1, hg1⟩
  have hub : u0 ≤ 20 := by omega
  go_wp2_with fail
  refine (pick_any g _ _ _ hr1 (by omega)).mono ?_
  rintro e w2 ⟨x, rfl, hx0, hx1, hr2, hg2⟩
  obtain ⟨y0, rfl⟩ := Int.eq_ofNat_of_zero_le hx0
  have hxb : y0 ≤ 9 := by omega
  have ho2 : SubE 2 encTomb 54 w2 w.heap.size (some ⟨w.heap.size, 0, none⟩) 0 ([] : List ElTomb) := SubE.keptG (SubE.keptG (xs := []) (OwnE.sub (Own.lit w 54 2 0 #[] (cE 2 encTomb ([] : List ElTomb)) (Nat.zero_le _) rfl)) hg1 hlt) hg2 hlt
  have hw2 : w.grownBy w2 (some g) := ((only_alloc w (some g) (World.grownBy.refl _ _) _).trans hg1).trans hg2
  clear hx0 hx1 hr1 hg1 hg2 hu1
  go_wp2_with fail
  go_loopw [5, 6, 7] (fun v u i wr => ∃ (c y : Nat) (T : Option Addr) (cap : Nat) (cur : List ElTomb) (when : Int), c + y ≤ 9 ∧ i = .int .i64 y ∧ u = .int .i64 when ∧ 0 ≤ when ∧ when ≤ 20 + 60 * c ∧ v = .slice T cur.length cap ∧ cur.length ≤ 8 ∧ Hid (∀ k, k < cur.length → (gt cur k).1.size ≤ maxLen) ∧ SubE 2 encTomb 54 wr w.heap.size T cap cur ∧ Rdr wr g (m + 2 + 2 * c) ∧ w.grownBy wr (some g)) (fun _ _ i _ => (intOf i).toNat)
  case atStart => exact ⟨0, y0, _, 0, [], u0, by omega, rfl, rfl, hu0, by omega, rfl, by simp, Lib.hid (fun k hk => by simp at hk), ho2, hr2, hw2⟩
  case round =>
    obtain ⟨c, y, T, cap, cur, when, hcy, rfl, rfl, hwh0, hwh1, rfl, hcl, HSZ, hown, hr, hw⟩ := hrel
    clear ho2 hr2 hw2
    have hsz := hw.size
    by_cases hlt2 : 0 < y
    · obtain ⟨y, rfl⟩ : ∃ z, y = z + 1 := ⟨y - 1, by omega⟩
      have hd : decide (0 < ((y + 1 : Nat) : Int)) = true := decide_eq_true (by omega)
      go_wp2_with fail
      refine (specMarkText_small _ _ (by omega) (by omega)).mono ?_
      rintro e w' ⟨s, rfl, hs36, rfl⟩
      have hss : ({ data := #[110] } ++ s : ByteArray).size ≤ 40 := by rw [ByteArray.size_append]; show 1 + s.size ≤ 40; omega
      have hrA := hr.alloc (.cells #[.string { data := #[107, 49] }, .string { data := #[107, 50] }, .string { data := #[107, 51] }, .string { data := #[107, 52] }, .string ({ data := #[110] } ++ s)] 9)
      go_wp2_with fail
      refine (pick_any g _ _ _ hrA (by omega)).mono ?_
      rintro e w3 ⟨z, rfl, hz0, hz1, hr3, hg3⟩
      obtain ⟨z, rfl⟩ := Int.eq_ofNat_of_zero_le hz0
      have hz : z < 5 := by omega
      have htab := tab_cell hg3 (by omega)
      have hel : ∃ t : ByteArray, t.size ≤ 40 ∧ w3.cell? ⟨wr.heap.size, z, none⟩ = some (.string t) := by
        rw [htab z]
        match z, hz with
        | 0, _ => exact ⟨{ data := #[107, 49] }, by decide, rfl⟩
        | 1, _ => exact ⟨{ data := #[107, 50] }, by decide, rfl⟩
        | 2, _ => exact ⟨{ data := #[107, 51] }, by decide, rfl⟩
        | 3, _ => exact ⟨{ data := #[107, 52] }, by decide, rfl⟩
        | 4, _ => exact ⟨_, hss, rfl⟩
      obtain ⟨t, ht, hct⟩ := hel
      clear htab hz0 hz1
      have hown3 := SubE.keptG (Sub.below hown ((Below.refl _ _).alloc (Nat.le_refl _) (.cells #[.string { data := #[107, 49] }, .string { data := #[107, 50] }, .string { data := #[107, 51] }, .string { data := #[107, 52] }, .string ({ data := #[110] } ++ s)] 9))) hg3 hlt
      have hw3 := (only_alloc w (some g) hw (.cells #[.string { data := #[107, 49] }, .string { data := #[107, 50] }, .string { data := #[107, 51] }, .string { data := #[107, 52] }, .string ({ data := #[110] } ++ s)] 9)).trans hg3
      have hs3 := hw3.size
      clear hg3 hown hr hw hrA
      go_wp2_with fail
      refine (specBuryKey_any _ _ _ cur t when _ (SubE.rd hown3) (Nat.le_refl _) (by omega) HSZ.out (sz40 ht)).mono ?_
      rintro e w4 ⟨T4, cap4, rfl, ho4, hb4⟩
      have hl4 := buryOf_len cur t when
      have hw4 := only_below hw3 hb4 hs3
      have hr4 := hr3.below hb4 (by omega)
      have ho4w := Sub.more ho4 hs3
      clear hown3 ho4 hw3 hr3
      go_wp2_with fail
      refine (pick_any g _ _ _ hr4 (by omega)).mono ?_
      rintro e w5 ⟨p, rfl, hp0, hp1, hr5, hg5⟩
      have hp2 : p ≤ 60 := by omega
      go_wp2_with fail
      go_roundw
      case rel => exact ⟨c + 1, y, T4, cap4, buryOf cur t when, when + p, by omega, by go_num, rfl, by omega, by omega, rfl, hl4, Lib.hid (buryOf_sz HSZ.out (sz40 ht)), SubE.keptG ho4w hg5 hlt, hr5.more (by omega), hw4.trans hg5⟩
      case measure => simp [intOf]
    · have hd : decide (0 < (y : Int)) = false := decide_eq_false (by omega)
      go_wp2_with fail
      refine (odd_any g _ _ _ hr (by omega) hn hn2).mono ?_
      rintro e w3 ⟨q, rfl, hr3, hg3⟩
      have hown3 := SubE.keptG hown hg3 hlt
      have hw3 := hw.trans hg3
      have hs3 := hw3.size
      clear hown hr hw hg3 hd
      cases q
      · go_wp2_with fail
        go_ret
        exact ⟨T, cap, cur, rfl, by omega, HSZ.out, hown3, hr3.more (by omega), hw3⟩
      · have hrA := hr3.alloc (.cells #[.string { data := #[] }, .int .i64 0, .string { data := #[122] }, .int .i64 (-1), .string { data := #[122] }, .int .i64 1000000001, .string { data := #[65] }, .int .i64 1000000000] 54)
        go_wp2_with fail
        refine (pick_any g _ _ _ hrA (by omega)).mono ?_
        rintro e w4 ⟨z, rfl, hz0, hz1, hr4, hg4⟩
        obtain ⟨z, rfl⟩ := Int.eq_ofNat_of_zero_le hz0
        have hz : z < 4 := by omega
        have htab := tab_cell hg4 (by omega)
        have hel : ∃ v : ElTomb, v.1.size ≤ 40 ∧ w4.cell? ⟨w3.heap.size, z * 2, none⟩ = some (.string v.1) ∧ w4.cell? ⟨w3.heap.size, z * 2 + 1, none⟩ = some (.int .i64 v.2) := by
          rw [htab (z * 2), htab (z * 2 + 1)]
          match z, hz with
          | 0, _ => exact ⟨({ data := #[] }, 0), by decide, rfl, rfl⟩
          | 1, _ => exact ⟨({ data := #[122] }, -1), by decide, rfl, rfl⟩
          | 2, _ => exact ⟨({ data := #[122] }, 1000000001), by decide, rfl, rfl⟩
          | 3, _ => exact ⟨({ data := #[65] }, 1000000000), by decide, rfl, rfl⟩
        obtain ⟨v, hv9, v0, v1⟩ := hel
        clear htab hz0 hz1
        have hown4 := SubE.keptG (Sub.below hown3 ((Below.refl _ _).alloc (Nat.le_refl _) (.cells #[.string { data := #[] }, .int .i64 0, .string { data := #[122] }, .int .i64 (-1), .string { data := #[122] }, .int .i64 1000000001, .string { data := #[65] }, .int .i64 1000000000] 54))) hg4 hlt
        have hw4 := (only_alloc w (some g) hw3 (.cells #[.string { data := #[] }, .int .i64 0, .string { data := #[122] }, .int .i64 (-1), .string { data := #[122] }, .int .i64 1000000001, .string { data := #[65] }, .int .i64 1000000000] 54)).trans hg4
        have hs4 := hw4.size
        clear hg4 hown3
        go_wp2_with (at_builtin; refine wpList_appS rfl (.tmp 35) (.tmp 45) _ rfl w.heap.size 54 _ 2 24 Try.underlying24 info_Tomb rfl (by omega) T (some ⟨w4.heap.size, 0, none⟩) cur.length cap 1 1 (w4.heap.size + 1) (cE 2 encTomb cur) (encTomb v) rfl rfl (Sub.below hown4 ((Below.refl _ _).alloc (Nat.le_refl _) _)) (rd_elem _ _ _ _ (fun j hj => by rcases (by omega : j = 0 ∨ j = 1) with rfl | rfl <;> rfl)) (by omega) (fun _ _ => encTomb_one _ _) (by simp only [maxLen]; omega) (by omega) (by first | omega | (simp; done) | (simp; omega)) ?_; intro T5 cap5 w5 hown5 hg5)
        go_ret
        have hb5 : Below w.heap.size w4 w5 := ((Below.refl _ _).alloc hs4 _).trans (grown_below hg5 (fun b hb => (Sub.lt hown4 hb).1) (by first | omega | (simp; done) | (simp; omega)))
        exact ⟨T5, cap5, cur ++ [v], by rw [List.length_append]; rfl, by rw [List.length_append, List.length_singleton]; omega, add_szT HSZ.out (sz40 hv9), SubE.push (by omega) rfl hown5, (hr4.below hb5 hlt).more (by omega), only_below hw4 hb5 (Nat.le_refl _)⟩
def DrawnT (w : World) (e : Ending) (w' : World) : Prop := ∃ (A : Option Addr) (cap : Nat) (xs : List ElTomb), e = .returned (.slice A xs.length cap) ∧ xs.length ≤ 9 ∧ (∀ k, k < xs.length → (gt xs k).1.size ≤ maxLen) ∧ SubE 2 encTomb 54 w' w.heap.size A cap xs ∧ Below w.heap.size w w'
def DrawnTK (w : World) (e : Ending) (w' : World) : Prop := ∃ (A : Option Addr) (cap : Nat) (xs : List ElTomb) (key : ByteArray) (now : Int), e = .returned (.tuple #[.slice A xs.length cap, .string key, .int .i64 now]) ∧ xs.length ≤ 9 ∧ (∀ k, k < xs.length → (gt xs k).1.size ≤ maxLen) ∧ key.size ≤ 40 ∧ -100 ≤ now ∧ now ≤ 1000000100 ∧ SubE 2 encTomb 54 w' w.heap.size A cap xs ∧ Below w.heap.size w w'
end Go.Proofs.Ytnplpllhochlfaa
