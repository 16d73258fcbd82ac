import Derived.Test.YtgogkdenolkfjaaReader
import Derived.Test.YtgogkdenolkfjaaChain
import Derived.Test.YtgogkdenolkfjaaReportC
import Derived.Test.YtgogkdenolkfjaaReportE
namespace Go.Proofs.Ytgogkdenolkfjaa
open Go.RowKit
theorem OwnE.keptG {α : Type} [Inhabited α] {sz e base g cap : Nat} {enc : α → Nat → Value} {w w' : World} {A : Option Addr} {xs : List α} (h : OwnE sz enc e w base A cap xs) (hg : w.grownBy w' (some g)) (hlt : g < base) : OwnE sz enc e w' base A cap xs :=
  Own.kept h hg (by
    cases hT : blk A with
    | none => exact .inl rfl
    | some b => exact .inr (fun e => by injection e with e; have := (Own.lt h hT).1; omega))
theorem below_of_only {a b c : World} {g : Nat} (h : Below a.heap.size a b) (k : b.grownBy c (some g)) (hg : a.heap.size ≤ g) : Below a.heap.size a c :=
  h.trans ((Below.refl _ _).grown k h.size (fun i hi => by injection hi with hi; omega))
/-- A word drawn: some short text. -/
def DrewW (g m : Nat) (w : World) (e : Ending) (w' : World) : Prop := ∃ s : ByteArray, e = .returned (.string s) ∧ s.size ≤ 9 ∧ Rdr w' g (m + 2) ∧ w.grownBy w' (some g)
theorem str_size (l : Array UInt8) (h : l.size ≤ 9) : (ByteArray.mk l).size ≤ 9 := h
set_option maxHeartbeats 400000 in
theorem l20Word_any (g m : Nat) (n : Int) (w : World) (h : Rdr w g m) (hm : m ≤ 1000100) (hn : 0 ≤ n) (hn2 : n ≤ 1000000) :
    Calls Try.prog 40 #[.pointer (some ⟨g, 0, none⟩), .int .i64 n] w (DrewW g m w) := by
  go_enter Try.func40, Try.ntmps40
  go_wp2_with fail
  refine (odd_any g m _ _ h (by omega) hn hn2).mono ?_
  rintro e w1 ⟨q, rfl, hr1, hg1⟩
  cases q
  ·
    have hrA := hr1.alloc (.cells #[.string { data := #[97, 110, 110] }, .string { data := #[98, 111, 98] }, .string { data := #[114, 101, 100] }, .string { data := #[115, 101, 97] }, .string { data := #[107, 49] }, .string { data := #[107, 50] }] 9)
    go_wp2_with fail
    refine (pick_any g _ _ _ hrA (by omega)).mono ?_
    rintro e w3 ⟨z, rfl, hz0, hz1, hr3, hg3⟩
    obtain ⟨z, rfl⟩ := Int.eq_ofNat_of_zero_le hz0
    have hz : z < 6 := by omega
    have htab := tab_cell hg3 (by have := hr1.lt; omega)
    have hel : ∃ s : ByteArray, s.size ≤ 9 ∧ w3.cell? ⟨w1.heap.size, z, none⟩ = some (.string s) := by
      rw [htab z]
      match z, hz with
      | 0, _ => exact ⟨_, str_size _ (by decide), rfl⟩
      | 1, _ => exact ⟨_, str_size _ (by decide), rfl⟩
      | 2, _ => exact ⟨_, str_size _ (by decide), rfl⟩
      | 3, _ => exact ⟨_, str_size _ (by decide), rfl⟩
      | 4, _ => exact ⟨_, str_size _ (by decide), rfl⟩
      | 5, _ => exact ⟨_, str_size _ (by decide), rfl⟩
    obtain ⟨s, hs, hc⟩ := hel
    clear htab hz0 hz1
    have hgw := (only_alloc w (some g) hg1 (.cells #[.string { data := #[97, 110, 110] }, .string { data := #[98, 111, 98] }, .string { data := #[114, 101, 100] }, .string { data := #[115, 101, 97] }, .string { data := #[107, 49] }, .string { data := #[107, 50] }] 9)).trans hg3
    clear hg3
    go_wp2_with fail
    go_ret
    exact ⟨s, rfl, hs, hr3.more (by omega), hgw⟩
  ·
    have hrA := hr1.alloc (.cells #[.string { data := #[] }, .string { data := #[49, 97] }, .string { data := #[65] }, .string { data := #[97, 32, 98] }, .string { data := #[97, 98, 99, 100, 101, 102, 103, 104, 105] }] 9)
    go_wp2_with fail
    refine (pick_any g _ _ _ hrA (by omega)).mono ?_
    rintro e w3 ⟨z, rfl, hz0, hz1, hr3, hg3⟩
    obtain ⟨z, rfl⟩ := Int.eq_ofNat_of_zero_le hz0
    have hz : z < 5 := by omega
    have htab := tab_cell hg3 (by have := hr1.lt; omega)
    have hel : ∃ s : ByteArray, s.size ≤ 9 ∧ w3.cell? ⟨w1.heap.size, z, none⟩ = some (.string s) := by
      rw [htab z]
      match z, hz with
      | 0, _ => exact ⟨_, str_size _ (by decide), rfl⟩
      | 1, _ => exact ⟨_, str_size _ (by decide), rfl⟩
      | 2, _ => exact ⟨_, str_size _ (by decide), rfl⟩
      | 3, _ => exact ⟨_, str_size _ (by decide), rfl⟩
      | 4, _ => exact ⟨_, str_size _ (by decide), rfl⟩
    obtain ⟨s, hs, hc⟩ := hel
    clear htab hz0 hz1
    have hgw := (only_alloc w (some g) hg1 (.cells #[.string { data := #[] }, .string { data := #[49, 97] }, .string { data := #[65] }, .string { data := #[97, 32, 98] }, .string { data := #[97, 98, 99, 100, 101, 102, 103, 104, 105] }] 9)).trans hg3
    clear hg3
    go_wp2_with fail
    go_ret
    exact ⟨s, rfl, hs, hr3.more (by omega), hgw⟩
/-- Reports drawn: some list, in new memory. -/
def DrewR (g m : Nat) (w : World) (e : Ending) (w' : World) : Prop := ∃ (A : Option Addr) (cap : Nat) (xs : List ElReport), e = .returned (.slice A xs.length cap) ∧ xs.length ≤ 9 ∧ (∀ k, k < xs.length → (gt xs k).1.size ≤ maxLen) ∧ OwnE 3 encReport 34 w' w.heap.size A cap xs ∧ Rdr w' g (m + 60) ∧ w.grownBy w' (some g)
theorem addOf_sz {rs : List ElReport} {what : ByteArray} (h : ∀ k, k < rs.length → (gt rs k).1.size ≤ maxLen) (hw : what.size ≤ maxLen) : ∀ k, k < (addOf rs what).length → (gt (addOf rs what) k).1.size ≤ maxLen := by
  unfold addOf
  split
  · split
    · rcases ix_two (rs := rs) (what := what) with hix | ⟨i, hi, hix⟩
      · rw [addR_new hix]; exact add_sz h hw
      · rw [addR_old hix]; exact set_sz h hi rfl
    · exact h
  · intro k hk; simp at hk
theorem decideOf_sz {rs : List ElReport} {what : ByteArray} (h : ∀ k, k < rs.length → (gt rs k).1.size ≤ maxLen) : ∀ k, k < (decideOf rs what).length → (gt (decideOf rs what) k).1.size ≤ maxLen := by
  unfold decideOf
  split
  · split
    · exact h
    · next hc =>
      obtain ⟨i, hi⟩ := Int.eq_ofNat_of_zero_le (show 0 ≤ canIx rs what by omega)
      have hlt : i < rs.length := by
        have := ix_hi (p := isR what) (xs := rs)
        unfold canIx reportIx at hi
        split at hi <;> omega
      rw [hi, Int.toNat_natCast]
      exact set_sz h hlt rfl
  · intro k hk; simp at hk
theorem sz9 {s : ByteArray} (h : s.size ≤ 9) : s.size ≤ maxLen := by simp only [maxLen]; omega
/-- The cells where the first one's count is great. -/
def top1 (r : ElReport) : ElReport := (r.1, 1000, r.2.2)
theorem top_cells {rs : List ElReport} (j : Nat) : (if j = 1 then Value.int .i64 1000 else cE 3 encReport rs j) = if j / 3 = 0 then encReport (top1 (gt rs 0)) (j % 3) else cE 3 encReport rs j := by
  by_cases h1 : j = 1
  · rw [if_pos h1, if_pos (by omega), show j % 3 = 1 by omega]; rfl
  · rw [if_neg h1]
    by_cases h2 : j / 3 = 0
    · rw [if_pos h2]
      unfold cE
      rw [h2]
      rcases (by omega : j % 3 = 0 ∨ j % 3 = 2) with h3 | h3 <;> rw [h3] <;> rfl
    · rw [if_neg h2]
set_option maxHeartbeats 1600000 in
theorem l20Reports_any (g m : Nat) (n : Int) (w : World) (h : Rdr w g m) (hm : m ≤ 1000000) (hn : 0 ≤ n) (hn2 : n ≤ 1000000) :
    Calls Try.prog 38 #[.pointer (some ⟨g, 0, none⟩), .int .i64 n] w (DrewR g m w) := by
  have hlt := h.lt
  go_enter Try.func38, Try.ntmps38
  go_wp2_with fail
  refine (pick_any g m _ _ (h.alloc _) (by omega)).mono ?_
  rintro e w1 ⟨x, rfl, hx0, hx1, hr1, hg1⟩
  obtain ⟨y0, rfl⟩ := Int.eq_ofNat_of_zero_le hx0
  have hxb : y0 ≤ 8 := by omega
  have ho1 : OwnE 3 encReport 34 w1 w.heap.size (some ⟨w.heap.size, 0, none⟩) 0 ([] : List ElReport) := OwnE.keptG (xs := []) (Own.lit w 34 3 0 #[] (cE 3 encReport ([] : List ElReport)) (Nat.zero_le _) rfl) hg1 hlt
  have hw1 : w.grownBy w1 (some g) := (only_alloc w (some g) (World.grownBy.refl _ _) _).trans hg1
  clear hx0 hx1
  go_wp2_with fail
  go_loopw [5, 6] (fun v i wr => ∃ (c y : Nat) (T : Option Addr) (cap : Nat) (cur : List ElReport), c + y ≤ 8 ∧ i = .int .i64 y ∧ v = .slice T cur.length cap ∧ cur.length ≤ 8 ∧ Hid (∀ k, k < cur.length → (gt cur k).1.size ≤ maxLen) ∧ OwnE 3 encReport 34 wr w.heap.size T cap cur ∧ Rdr wr g (m + 1 + 3 * c) ∧ w.grownBy wr (some g)) (fun _ i _ => (intOf i).toNat)
  case atStart => exact ⟨0, y0, _, 0, [], by omega, rfl, rfl, by simp, Lib.hid (fun k hk => by simp at hk), ho1, hr1, hw1⟩
  case round =>
    obtain ⟨c, y, T, cap, cur, hcy, rfl, rfl, hcl, HSZ, hown, hr, hw⟩ := hrel
    clear ho1 hr1 hw1 hg1
    have hsz := hw.size
    by_cases hlt2 : 0 < y
    · obtain ⟨y, rfl⟩ : ∃ z, y = z + 1 := ⟨y - 1, by omega⟩
      have hd : decide (0 < ((y + 1 : Nat) : Int)) = true := decide_eq_true (by omega)
      go_wp2_with fail
      refine (pick_any g _ _ _ hr (by omega)).mono ?_
      rintro e w2 ⟨u, rfl, hu0, hu1, hr2, hg2⟩
      have ho2 := hown.keptG hg2 hlt
      have hw2 := hw.trans hg2
      clear hown hr hw hg2
      by_cases hu : u = 0
      ·
        have hu1b : (u == 0) = true := beq_iff_eq.2 hu
        clear hu
        go_wp2_with fail
        refine (l20Word_any g _ _ _ hr2 (by omega) (by omega) (by omega)).mono ?_
        rintro e w3 ⟨s, rfl, hss, hr3, hg3⟩
        have ho3 := OwnE.keptG ho2 hg3 hlt
        have hw3 := hw2.trans hg3
        have hs3 := hw3.size
        go_wp2_with fail
        refine (specDecideReport_any _ _ _ cur s _ (OwnE.rd ho3) (Nat.le_refl _) (by omega) HSZ.out (sz9 hss)).mono ?_
        rintro e w4 ⟨T4, cap4, rfl, ho4, hb4⟩
        have hl4 := decideOf_len cur s
        clear ho3 ho2 hg3 hr2 hw2
        go_wp2_with fail
        go_roundw
        case rel => exact ⟨c + 1, y, T4, cap4, decideOf cur s, by omega, by go_num, rfl, hl4, Lib.hid (decideOf_sz HSZ.out), Own.more ho4 hs3, (hr3.below hb4 (by omega)).more (by omega), only_below hw3 hb4 hs3⟩
        case measure => simp [intOf]
      ·
        have hu1b : (u == 0) = false := beq_eq_false_iff_ne.2 hu
        clear hu
        go_wp2_with fail
        refine (l20Word_any g _ _ _ hr2 (by omega) (by omega) (by omega)).mono ?_
        rintro e w3 ⟨s, rfl, hss, hr3, hg3⟩
        have ho3 := OwnE.keptG ho2 hg3 hlt
        have hw3 := hw2.trans hg3
        have hs3 := hw3.size
        go_wp2_with fail
        refine (specAddReport_any _ _ _ cur s _ (OwnE.rd ho3) (Nat.le_refl _) (by omega) HSZ.out (sz9 hss)).mono ?_
        rintro e w4 ⟨T4, cap4, rfl, ho4, hb4⟩
        have hl4 := addOf_len cur s
        clear ho3 ho2 hg3 hr2 hw2
        go_wp2_with fail
        go_roundw
        case rel => exact ⟨c + 1, y, T4, cap4, addOf cur s, by omega, by go_num, rfl, hl4, Lib.hid (addOf_sz HSZ.out (sz9 hss)), Own.more ho4 hs3, (hr3.below hb4 (by omega)).more (by omega), only_below hw3 hb4 hs3⟩
        case measure => simp [intOf]
    · have hd : decide (0 < (y : Int)) = false := decide_eq_false (by omega)
      go_wp2_with fail
      refine (odd_any g _ _ _ hr (by omega) (by omega) (by omega)).mono ?_
      rintro e w2 ⟨q, rfl, hr2, hg2⟩
      have hown2 := OwnE.keptG hown hg2 hlt
      have hw2 := hw.trans hg2
      have hs2 := hw2.size
      clear hown hr hw hg2 hd
      cases q
      ·
        have hsT := hw2.size
        go_wp2_with fail
        refine (odd_any g _ _ _ hr2 (by omega) hn hn2).mono ?_
        rintro e w3 ⟨q3, rfl, hr3, hg3⟩
        have hown3 := OwnE.keptG hown2 hg3 hlt
        have hw3 := hw2.trans hg3
        have hs3 := hw3.size
        clear hg3
        cases q3
        · go_wp2_with fail
          go_ret
          exact ⟨T, cap, cur, rfl, by omega, HSZ.out, hown3, hr3.more (by omega), hw3⟩
        · have hrA := hr3.alloc (.cells #[.string { data := #[] }, .int .i64 0, .bool false, .string { data := #[122] }, .int .i64 0, .bool false, .string { data := #[122] }, .int .i64 1001, .bool false, .string { data := #[65] }, .int .i64 1, .bool false] 34)
          go_wp2_with fail
          refine (pick_any g _ _ _ hrA (by omega)).mono ?_
          rintro e w4 ⟨z, rfl, hz0, hz1, hr4, hg4⟩
          obtain ⟨z, rfl⟩ := Int.eq_ofNat_of_zero_le hz0
          have hz : z < 4 := by omega
          have htab := tab_cell hg4 (by omega)
          have hel : ∃ v : ElReport, v.1.size ≤ 9 ∧ w4.cell? ⟨w3.heap.size, z * 3, none⟩ = some (.string v.1) ∧ w4.cell? ⟨w3.heap.size, z * 3 + 1, none⟩ = some (.int .i64 v.2.1) ∧ w4.cell? ⟨w3.heap.size, z * 3 + 2, none⟩ = some (.bool v.2.2) := by
            rw [htab (z * 3), htab (z * 3 + 1), htab (z * 3 + 2)]
            match z, hz with
            | 0, _ => exact ⟨({ data := #[] }, 0, false), str_size _ (by decide), rfl, rfl, rfl⟩
            | 1, _ => exact ⟨({ data := #[122] }, 0, false), str_size _ (by decide), rfl, rfl, rfl⟩
            | 2, _ => exact ⟨({ data := #[122] }, 1001, false), str_size _ (by decide), rfl, rfl, rfl⟩
            | 3, _ => exact ⟨({ data := #[65] }, 1, false), str_size _ (by decide), rfl, rfl, rfl⟩
          obtain ⟨v, hv9, v0, v1, v2⟩ := hel
          clear htab hz0 hz1
          have hown4 := OwnE.keptG (Own.below hown3 ((Below.refl _ _).alloc (Nat.le_refl _) (.cells #[.string { data := #[] }, .int .i64 0, .bool false, .string { data := #[122] }, .int .i64 0, .bool false, .string { data := #[122] }, .int .i64 1001, .bool false, .string { data := #[65] }, .int .i64 1, .bool false] 34))) hg4 hlt
          have hw4 := (only_alloc w (some g) hw3 (.cells #[.string { data := #[] }, .int .i64 0, .bool false, .string { data := #[122] }, .int .i64 0, .bool false, .string { data := #[122] }, .int .i64 1001, .bool false, .string { data := #[65] }, .int .i64 1, .bool false] 34)).trans hg4
          have hs4 := hw4.size
          clear hg4 hown3
          go_wp2_with (at_builtin; refine wpList_app rfl (.tmp 50) (.tmp 60) _ rfl w.heap.size 34 _ 3 32 Try.underlying25 info_Report rfl (by omega) T (some ⟨w4.heap.size, 0, none⟩) cur.length cap 1 1 (w4.heap.size + 1) (cE 3 encReport (cur)) (encReport v) rfl rfl (OwnE.own (Own.below hown4 ((Below.refl _ _).alloc (Nat.le_refl _) _)) rfl) (rd_elem _ _ _ _ (fun j hj => by rcases (by omega : j = 0 ∨ j = 1 ∨ j = 2) with rfl | rfl | rfl <;> rfl)) (fun _ _ => encReport_one _ _) (by simp only [maxLen]; omega) (by omega) (by first | omega | (simp; done) | (simp; omega)) ?_; intro T5 cap5 w5 hown5 hg5)
          go_ret
          have hb5 : Below w.heap.size w4 w5 := ((Below.refl _ _).alloc hs4 _).trans (grown_below hg5 (fun b hb => (Own.lt hown4 hb).1) (by first | omega | (simp; done) | (simp; omega)))
          exact ⟨T5, cap5, cur ++ [v], by rw [List.length_append]; rfl, by rw [List.length_append, List.length_singleton]; omega, add_sz (HSZ.out) (sz9 hv9), OwnE.push (by omega) rfl hown5, (hr4.below hb5 hlt).more (by omega), only_below hw4 hb5 (Nat.le_refl _)⟩
      · by_cases hpos : 0 < cur.length
        · have hp1 : decide (0 < (cur.length : Int)) = true := decide_eq_true (by omega)
          have hp2 : decide (0 < cur.length) = true := decide_eq_true hpos
          rcases hown2.shape with ⟨_, h0, _⟩ | ⟨b, rfl, hbb, hbl, hcp, hmx⟩
          · omega
          · have c1 := Own.cell hown2 rfl (j := 1) (by omega)
            have f1 := Own.frozen hown2 rfl 1
            have hst := Own.set hown2 rfl (j := 1) (Value.int .i64 1000)
            have hownX : OwnE 3 encReport 34 (w2.setCell ⟨b, 1, none⟩ (Value.int .i64 1000)) w.heap.size (some ⟨b, 0, none⟩) cap (cur.set 0 (top1 (gt cur 0))) := OwnE.of_set hpos hst.1 (fun j _ => top_cells j)
            have hrX : Rdr (w2.setCell ⟨b, 1, none⟩ (Value.int .i64 1000)) g (m + 1 + 3 * c + 1) := hr2.grown hst.2 (fun k hk => by simp [blk] at hk; omega)
            have hwX : w.grownBy (w2.setCell ⟨b, 1, none⟩ (Value.int .i64 1000)) (some g) := only_own hw2 hst.2 (fun k hk => by simp [blk] at hk; omega)
            have hszX := set_sz HSZ.out hpos (y := top1 (gt cur 0)) rfl
            have HSX := Lib.hid hszX
            clear hst hown2 hr2 hw2 hszX
            have hsT := hwX.size
            go_wp2_with fail
            refine (odd_any g _ _ _ hrX (by omega) hn hn2).mono ?_
            rintro e w3 ⟨q3, rfl, hr3, hg3⟩
            have hown3 := OwnE.keptG hownX hg3 hlt
            have hw3 := hwX.trans hg3
            have hs3 := hw3.size
            clear hg3
            cases q3
            · go_wp2_with fail
              go_ret
              exact ⟨(some ⟨b, 0, none⟩), cap, cur.set 0 (top1 (gt cur 0)), by rw [List.length_set]; rfl, by rw [List.length_set]; omega, HSX.out, hown3, hr3.more (by omega), hw3⟩
            · have hrA := hr3.alloc (.cells #[.string { data := #[] }, .int .i64 0, .bool false, .string { data := #[122] }, .int .i64 0, .bool false, .string { data := #[122] }, .int .i64 1001, .bool false, .string { data := #[65] }, .int .i64 1, .bool false] 34)
              go_wp2_with fail
              refine (pick_any g _ _ _ hrA (by omega)).mono ?_
              rintro e w4 ⟨z, rfl, hz0, hz1, hr4, hg4⟩
              obtain ⟨z, rfl⟩ := Int.eq_ofNat_of_zero_le hz0
              have hz : z < 4 := by omega
              have htab := tab_cell hg4 (by omega)
              have hel : ∃ v : ElReport, v.1.size ≤ 9 ∧ w4.cell? ⟨w3.heap.size, z * 3, none⟩ = some (.string v.1) ∧ w4.cell? ⟨w3.heap.size, z * 3 + 1, none⟩ = some (.int .i64 v.2.1) ∧ w4.cell? ⟨w3.heap.size, z * 3 + 2, none⟩ = some (.bool v.2.2) := by
                rw [htab (z * 3), htab (z * 3 + 1), htab (z * 3 + 2)]
                match z, hz with
                | 0, _ => exact ⟨({ data := #[] }, 0, false), str_size _ (by decide), rfl, rfl, rfl⟩
                | 1, _ => exact ⟨({ data := #[122] }, 0, false), str_size _ (by decide), rfl, rfl, rfl⟩
                | 2, _ => exact ⟨({ data := #[122] }, 1001, false), str_size _ (by decide), rfl, rfl, rfl⟩
                | 3, _ => exact ⟨({ data := #[65] }, 1, false), str_size _ (by decide), rfl, rfl, rfl⟩
              obtain ⟨v, hv9, v0, v1, v2⟩ := hel
              clear htab hz0 hz1
              have hown4 := OwnE.keptG (Own.below hown3 ((Below.refl _ _).alloc (Nat.le_refl _) (.cells #[.string { data := #[] }, .int .i64 0, .bool false, .string { data := #[122] }, .int .i64 0, .bool false, .string { data := #[122] }, .int .i64 1001, .bool false, .string { data := #[65] }, .int .i64 1, .bool false] 34))) hg4 hlt
              have hw4 := (only_alloc w (some g) hw3 (.cells #[.string { data := #[] }, .int .i64 0, .bool false, .string { data := #[122] }, .int .i64 0, .bool false, .string { data := #[122] }, .int .i64 1001, .bool false, .string { data := #[65] }, .int .i64 1, .bool false] 34)).trans hg4
              have hs4 := hw4.size
              clear hg4 hown3
              go_wp2_with (at_builtin; refine wpList_app rfl (.tmp 50) (.tmp 60) _ rfl w.heap.size 34 _ 3 32 Try.underlying25 info_Report rfl (by omega) (some ⟨b, 0, none⟩) (some ⟨w4.heap.size, 0, none⟩) cur.length cap 1 1 (w4.heap.size + 1) (cE 3 encReport (cur.set 0 (top1 (gt cur 0)))) (encReport v) rfl rfl (OwnE.own (Own.below hown4 ((Below.refl _ _).alloc (Nat.le_refl _) _)) (by rw [List.length_set])) (rd_elem _ _ _ _ (fun j hj => by rcases (by omega : j = 0 ∨ j = 1 ∨ j = 2) with rfl | rfl | rfl <;> rfl)) (fun _ _ => encReport_one _ _) (by simp only [maxLen]; omega) (by omega) (by first | omega | (simp; done) | (simp; omega)) ?_; intro T5 cap5 w5 hown5 hg5)
              go_ret
              have hb5 : Below w.heap.size w4 w5 := ((Below.refl _ _).alloc hs4 _).trans (grown_below hg5 (fun b hb => (Own.lt hown4 hb).1) (by first | omega | (simp; done) | (simp; omega)))
              exact ⟨T5, cap5, cur.set 0 (top1 (gt cur 0)) ++ [v], by rw [List.length_append, List.length_set]; rfl, by rw [List.length_append, List.length_set, List.length_singleton]; omega, add_sz (HSX.out) (sz9 hv9), OwnE.push (by omega) (by rw [List.length_set]) hown5, (hr4.below hb5 hlt).more (by omega), only_below hw4 hb5 (Nat.le_refl _)⟩
        · have hp1 : decide (0 < (cur.length : Int)) = false := decide_eq_false (by omega)
          have hp2 : decide (0 < cur.length) = false := decide_eq_false hpos
          have hsT := hw2.size
          go_wp2_with fail
          refine (odd_any g _ _ _ hr2 (by omega) hn hn2).mono ?_
          rintro e w3 ⟨q3, rfl, hr3, hg3⟩
          have hown3 := OwnE.keptG hown2 hg3 hlt
          have hw3 := hw2.trans hg3
          have hs3 := hw3.size
          clear hg3
          cases q3
          · go_wp2_with fail
            go_ret
            exact ⟨T, cap, cur, rfl, by omega, HSZ.out, hown3, hr3.more (by omega), hw3⟩
          · have hrA := hr3.alloc (.cells #[.string { data := #[] }, .int .i64 0, .bool false, .string { data := #[122] }, .int .i64 0, .bool false, .string { data := #[122] }, .int .i64 1001, .bool false, .string { data := #[65] }, .int .i64 1, .bool false] 34)
            go_wp2_with fail
            refine (pick_any g _ _ _ hrA (by omega)).mono ?_
            rintro e w4 ⟨z, rfl, hz0, hz1, hr4, hg4⟩
            obtain ⟨z, rfl⟩ := Int.eq_ofNat_of_zero_le hz0
            have hz : z < 4 := by omega
            have htab := tab_cell hg4 (by omega)
            have hel : ∃ v : ElReport, v.1.size ≤ 9 ∧ w4.cell? ⟨w3.heap.size, z * 3, none⟩ = some (.string v.1) ∧ w4.cell? ⟨w3.heap.size, z * 3 + 1, none⟩ = some (.int .i64 v.2.1) ∧ w4.cell? ⟨w3.heap.size, z * 3 + 2, none⟩ = some (.bool v.2.2) := by
              rw [htab (z * 3), htab (z * 3 + 1), htab (z * 3 + 2)]
              match z, hz with
              | 0, _ => exact ⟨({ data := #[] }, 0, false), str_size _ (by decide), rfl, rfl, rfl⟩
              | 1, _ => exact ⟨({ data := #[122] }, 0, false), str_size _ (by decide), rfl, rfl, rfl⟩
              | 2, _ => exact ⟨({ data := #[122] }, 1001, false), str_size _ (by decide), rfl, rfl, rfl⟩
              | 3, _ => exact ⟨({ data := #[65] }, 1, false), str_size _ (by decide), rfl, rfl, rfl⟩
            obtain ⟨v, hv9, v0, v1, v2⟩ := hel
            clear htab hz0 hz1
            have hown4 := OwnE.keptG (Own.below hown3 ((Below.refl _ _).alloc (Nat.le_refl _) (.cells #[.string { data := #[] }, .int .i64 0, .bool false, .string { data := #[122] }, .int .i64 0, .bool false, .string { data := #[122] }, .int .i64 1001, .bool false, .string { data := #[65] }, .int .i64 1, .bool false] 34))) hg4 hlt
            have hw4 := (only_alloc w (some g) hw3 (.cells #[.string { data := #[] }, .int .i64 0, .bool false, .string { data := #[122] }, .int .i64 0, .bool false, .string { data := #[122] }, .int .i64 1001, .bool false, .string { data := #[65] }, .int .i64 1, .bool false] 34)).trans hg4
            have hs4 := hw4.size
            clear hg4 hown3
            go_wp2_with (at_builtin; refine wpList_app rfl (.tmp 50) (.tmp 60) _ rfl w.heap.size 34 _ 3 32 Try.underlying25 info_Report rfl (by omega) T (some ⟨w4.heap.size, 0, none⟩) cur.length cap 1 1 (w4.heap.size + 1) (cE 3 encReport (cur)) (encReport v) rfl rfl (OwnE.own (Own.below hown4 ((Below.refl _ _).alloc (Nat.le_refl _) _)) rfl) (rd_elem _ _ _ _ (fun j hj => by rcases (by omega : j = 0 ∨ j = 1 ∨ j = 2) with rfl | rfl | rfl <;> rfl)) (fun _ _ => encReport_one _ _) (by simp only [maxLen]; omega) (by omega) (by first | omega | (simp; done) | (simp; omega)) ?_; intro T5 cap5 w5 hown5 hg5)
            go_ret
            have hb5 : Below w.heap.size w4 w5 := ((Below.refl _ _).alloc hs4 _).trans (grown_below hg5 (fun b hb => (Own.lt hown4 hb).1) (by first | omega | (simp; done) | (simp; omega)))
            exact ⟨T5, cap5, cur ++ [v], by rw [List.length_append]; rfl, by rw [List.length_append, List.length_singleton]; omega, add_sz (HSZ.out) (sz9 hv9), OwnE.push (by omega) rfl hown5, (hr4.below hb5 hlt).more (by omega), only_below hw4 hb5 (Nat.le_refl _)⟩
def DrawnR (w : World) (e : Ending) (w' : World) : Prop := ∃ (A : Option Addr) (cap : Nat) (xs : List ElReport), e = .returned (.slice A xs.length cap) ∧ xs.length ≤ 9 ∧ (∀ k, k < xs.length → (gt xs k).1.size ≤ maxLen) ∧ OwnE 3 encReport 34 w' w.heap.size A cap xs ∧ Below w.heap.size w w'
def DrawnRW (w : World) (e : Ending) (w' : World) : Prop := ∃ (A : Option Addr) (cap : Nat) (xs : List ElReport) (s : ByteArray), e = .returned (.tuple #[.slice A xs.length cap, .string s]) ∧ xs.length ≤ 9 ∧ (∀ k, k < xs.length → (gt xs k).1.size ≤ maxLen) ∧ s.size ≤ 9 ∧ OwnE 3 encReport 34 w' w.heap.size A cap xs ∧ Below w.heap.size w w'
theorem DrawReportsValid_any (A : Option Addr) (cap B : Nat) (cs : List Int) (w : World) (h : RdU w B A cs) (hB : B ≤ w.heap.size) (hb : ∀ j, 0 ≤ PP.at_ cs j ∧ PP.at_ cs j ≤ 255) (hc : cs.length ≤ cap) (hl : cs.length ≤ 1048576) :
    Calls Try.prog 18 #[.slice A cs.length cap] w (DrawnR w) := by
  go_enter Try.func18, Try.ntmps18
  go_wp2_with fail
  refine (l20Open_any A cap B cs w h hB hb hc hl).mono ?_
  rintro e w1 ⟨rfl, hr1, hb1⟩
  have hlt := hr1.lt
  go_wp2_with fail
  refine (l20Reports_any _ 0 _ _ hr1 (by omega) (by omega) (by omega)).mono ?_
  rintro e w2 ⟨T, cap', xs, rfl, hx, hsz, hown, hr2, hg2⟩
  have HSZ := Lib.hid hsz
  clear hsz
  go_wp2_with fail
  go_ret
  exact ⟨T, cap', xs, rfl, hx, HSZ.out, Own.more hown hb1.size, below_of_only hb1 hg2 (Nat.le_refl _)⟩
theorem DrawNextReport_any (A : Option Addr) (cap B : Nat) (cs : List Int) (w : World) (h : RdU w B A cs) (hB : B ≤ w.heap.size) (hb : ∀ j, 0 ≤ PP.at_ cs j ∧ PP.at_ cs j ≤ 255) (hc : cs.length ≤ cap) (hl : cs.length ≤ 1048576) :
    Calls Try.prog 20 #[.slice A cs.length cap] w (DrawnR w) := by
  go_enter Try.func20, Try.ntmps20
  go_wp2_with fail
  refine (l20Open_any A cap B cs w h hB hb hc hl).mono ?_
  rintro e w1 ⟨rfl, hr1, hb1⟩
  have hlt := hr1.lt
  go_wp2_with fail
  refine (l20Reports_any _ 0 _ _ hr1 (by omega) (by omega) (by omega)).mono ?_
  rintro e w2 ⟨T, cap', xs, rfl, hx, hsz, hown, hr2, hg2⟩
  have HSZ := Lib.hid hsz
  clear hsz
  go_wp2_with fail
  go_ret
  exact ⟨T, cap', xs, rfl, hx, HSZ.out, Own.more hown hb1.size, below_of_only hb1 hg2 (Nat.le_refl _)⟩
theorem DrawAddReport_any (A : Option Addr) (cap B : Nat) (cs : List Int) (w : World) (h : RdU w B A cs) (hB : B ≤ w.heap.size) (hb : ∀ j, 0 ≤ PP.at_ cs j ∧ PP.at_ cs j ≤ 255) (hc : cs.length ≤ cap) (hl : cs.length ≤ 1048576) :
    Calls Try.prog 21 #[.slice A cs.length cap] w (DrawnRW w) := by
  go_enter Try.func21, Try.ntmps21
  go_wp2_with fail
  refine (l20Open_any A cap B cs w h hB hb hc hl).mono ?_
  rintro e w1 ⟨rfl, hr1, hb1⟩
  have hlt := hr1.lt
  go_wp2_with fail
  refine (l20Reports_any _ 0 _ _ hr1 (by omega) (by omega) (by omega)).mono ?_
  rintro e w2 ⟨T, cap', xs, rfl, hx, hsz, hown, hr2, hg2⟩
  have HSZ := Lib.hid hsz
  clear hsz
  go_wp2_with fail
  refine (l20Word_any _ _ _ _ hr2 (by omega) (by omega) (by omega)).mono ?_
  rintro e w3 ⟨s, rfl, hs, hr3, hg3⟩
  go_wp2_with fail
  go_ret2
  exact ⟨T, cap', xs, s, rfl, hx, HSZ.out, hs, Own.more (OwnE.keptG hown hg3 hlt) hb1.size, below_of_only (below_of_only hb1 hg2 (Nat.le_refl _)) hg3 (Nat.le_refl _)⟩
theorem DrawDecideReport_any (A : Option Addr) (cap B : Nat) (cs : List Int) (w : World) (h : RdU w B A cs) (hB : B ≤ w.heap.size) (hb : ∀ j, 0 ≤ PP.at_ cs j ∧ PP.at_ cs j ≤ 255) (hc : cs.length ≤ cap) (hl : cs.length ≤ 1048576) :
    Calls Try.prog 29 #[.slice A cs.length cap] w (DrawnRW w) := by
  go_enter Try.func29, Try.ntmps29
  go_wp2_with fail
  refine (l20Open_any A cap B cs w h hB hb hc hl).mono ?_
  rintro e w1 ⟨rfl, hr1, hb1⟩
  have hlt := hr1.lt
  go_wp2_with fail
  refine (l20Reports_any _ 0 _ _ hr1 (by omega) (by omega) (by omega)).mono ?_
  rintro e w2 ⟨T, cap', xs, rfl, hx, hsz, hown, hr2, hg2⟩
  have HSZ := Lib.hid hsz
  clear hsz
  go_wp2_with fail
  refine (l20Word_any _ _ _ _ hr2 (by omega) (by omega) (by omega)).mono ?_
  rintro e w3 ⟨s, rfl, hs, hr3, hg3⟩
  go_wp2_with fail
  go_ret2
  exact ⟨T, cap', xs, s, rfl, hx, HSZ.out, hs, Own.more (OwnE.keptG hown hg3 hlt) hb1.size, below_of_only (below_of_only hb1 hg2 (Nat.le_refl _)) hg3 (Nat.le_refl _)⟩
end Go.Proofs.Ytgogkdenolkfjaa
