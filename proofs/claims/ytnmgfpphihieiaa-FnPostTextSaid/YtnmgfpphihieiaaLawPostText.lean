import Derived.Test.YtnmgfpphihieiaaDrawnPost
import Derived.Test.YtnmgfpphihieiaaPostText
import Derived.Test.YtnmgfpphihieiaaTail
import Derived.Test.YtnmgfpphihieiaaWords
import Derived.Test.YtnmgfpphihieiaaRegB
namespace Go.Proofs.Ytnmgfpphihieiaa
open Go.RowKit PP
def Prn (s : ByteArray) : Prop := ∀ j, j < s.size → 32 ≤ bb s j ∧ bb s j ≤ 126
theorem Prn.app {a b : ByteArray} (h : Prn a) (k : Prn b) : Prn (a ++ b) := fun j hj => by
  by_cases hja : j < a.size
  · rw [bb_left hja]; exact h j hja
  · rw [ByteArray.size_append] at hj
    have e : j = a.size + (j - a.size) := by omega
    rw [e, bb_right]; exact k _ (by omega)
theorem Prn.of {s : ByteArray} (h : textB s = true) : Prn s := (Text.of h).2
theorem mid_prn : Prn midT := fun j hj => by
  have hj2 : j < 2 := hj
  match j, hj2 with
  | 0, _ => decide
  | 1, _ => decide
/-- The whole text. -/
def jT (p : ElItem) : ByteArray := (joinT p.2.1 (fsOf (plainOf p.2.2.1))).extract 0 80
theorem join_prn {p : ElItem} (h : ivB p = true) : Prn (joinT p.2.1 (fsOf (plainOf p.2.2.1))) := by
  unfold joinT
  split
  · exact Prn.of (iv_text h)
  · exact (Prn.of (iv_text h)).app (mid_prn.app (Prn.of (fsOf_text plainOf_text)))
theorem jT_text {p : ElItem} (h : ivB p = true) : textB (jT p) = true := by
  unfold jT
  rw [← ext80l]
  have hp := join_prn h
  refine textB_true ⟨by rw [size_ext (Nat.min_le_left _ _)]; omega, fun j hj => ?_⟩
  rw [size_ext (Nat.min_le_left _ _)] at hj
  rw [bb_extract (Nat.min_le_left _ _) (by omega), Nat.zero_add]
  exact hp j (by omega)
theorem jT_title {p : ElItem} (h : ivB p = true) : p.2.1.size ≤ (jT p).size ∧ (jT p).extract 0 p.2.1.size = p.2.1 := by
  have h80 := (Text.of (iv_text h)).1
  have hs : p.2.1.size ≤ (joinT p.2.1 (fsOf (plainOf p.2.2.1))).size := by
    unfold joinT
    split
    · omega
    · rw [ByteArray.size_append]; omega
  have hb : ∀ k, k < p.2.1.size → bb (joinT p.2.1 (fsOf (plainOf p.2.2.1))) k = bb p.2.1 k := fun k hk => by
    unfold joinT
    split
    · rfl
    · exact bb_left hk
  have hz : p.2.1.size ≤ (jT p).size := by unfold jT; rw [ByteArray.size_extract]; omega
  refine ⟨hz, ba_bb (by rw [size_ext hz]; omega) (fun k hk => ?_)⟩
  rw [size_ext hz] at hk
  rw [bb_extract hz (by omega), Nat.zero_add]
  unfold jT
  rw [← ext80l, bb_extract (Nat.min_le_left _ _) (by omega), Nat.zero_add]
  exact hb k (by omega)
theorem pt_whole {p : ElItem} (h : ivB p = true) : ptOf p 80 = jT p := by
  rw [ptOf_yes h (by decide)]
  exact ctOf_all (jT_text h) (by decide) (by have := (Text.of (jT_text h)).1; show ((jT p).size : Int) ≤ 80; omega)
theorem ct_le {s : ByteArray} {m : Nat} (h : textB s = true) (h2 : inB (m : Int) 4 80 = true) : (ctOf s m).size ≤ m := by
  by_cases hl : s.size ≤ m
  · rw [ctOf_all h h2 (by omega)]; exact hl
  · have h4 : 4 ≤ m := by simp [inB] at h2; omega
    rw [ctOf_size h h2 h4 (by omega)]
    have := ctAt_le s m
    omega
set_option maxRecDepth 100000 in
set_option maxHeartbeats 1600000 in
theorem FnPostText_walk (A : Option Addr) (cap : Nat) (cs : List Int) (w : World) (h : Rd w w.heap.size 1 A cs.length (fun j => .int .u8 (at_ cs j))) (hc : cs.length ≤ cap) (_ : cap ≤ maxLen) (hwf : ∀ n ∈ cs, (Lit.int .u8 n).wf = true) :
    Calls Try.prog 6 #[.slice A cs.length cap] w fun e w' => e = .returned (.bool true) ∧ Below w.heap.size w w' := by
  by_cases hs : cs.length ≤ 1048576
  · have hd : decide (1048576 < (cs.length : Int)) = false := decide_eq_false (by omega)
    have hbyte := Lib.hid (byte_bounds hwf)
    clear hwf
    go_enter Try.func6, Try.ntmps6
    go_wp2_with fail
    refine (DrawPostText_any A cap _ cs w h (Nat.le_refl _) hbyte.out hc hs).mono ?_
    rintro e w1 ⟨p, many, rfl, hp0, hp1, hp2, hb1⟩
    obtain ⟨a, b, c, d⟩ := p
    have hp0 : a.size ≤ 81 := hp0
    have hp1 : b.size ≤ 81 := hp1
    have hp2 : c.size ≤ 81 := hp2
    have hs1 := hb1.size
    have a0 : (w1.alloc (.cells #[.string a, .string b, .string c, .int .i64 d] 35)).cell? ⟨w1.heap.size, 0, none⟩ = some (Value.string a) := by rw [World.cell?_alloc_at _ _ _ _ rfl]; rfl
    have a1 : (w1.alloc (.cells #[.string a, .string b, .string c, .int .i64 d] 35)).cell? ⟨w1.heap.size, 1, none⟩ = some (Value.string b) := by rw [World.cell?_alloc_at _ _ _ _ rfl]; rfl
    have a2 : (w1.alloc (.cells #[.string a, .string b, .string c, .int .i64 d] 35)).cell? ⟨w1.heap.size, 2, none⟩ = some (Value.string c) := by rw [World.cell?_alloc_at _ _ _ _ rfl]; rfl
    have a3 : (w1.alloc (.cells #[.string a, .string b, .string c, .int .i64 d] 35)).cell? ⟨w1.heap.size, 3, none⟩ = some (Value.int .i64 d) := by rw [World.cell?_alloc_at _ _ _ _ rfl]; rfl
    have hbA := hb1.alloc hs1 (.cells #[.string a, .string b, .string c, .int .i64 d] 35)
    have hzA : w1.heap.size < (w1.alloc (.cells #[.string a, .string b, .string c, .int .i64 d] 35)).heap.size := by simp
    clear hb1
    go_wp2_with fail
    generalize (w1.alloc (.cells #[.string a, .string b, .string c, .int .i64 d] 35)) = wA at *
    have hsA := hbA.size
    refine (implPostText_any (a, b, c, d) many wA (by show a.size ≤ maxLen; simp only [maxLen]; omega) (by show b.size ≤ maxLen; simp only [maxLen]; omega) (by show c.size ≤ maxLen; simp only [maxLen]; omega)).mono ?_
    rintro e w2 ⟨rfl, hb2⟩
    have hs2 := hb2.size
    obtain ⟨x, hx⟩ : ∃ x, ptOf (a, b, c, d) many = x := ⟨_, rfl⟩
    have HX := Lib.hid hx
    rw [hx]
    clear hx
    have hbB := hbA.trans (hb2.mono hsA)
    have b0 := cellOn a0 (by show w1.heap.size < _; omega) hb2
    have b1 := cellOn a1 (by show w1.heap.size < _; omega) hb2
    have b2 := cellOn a2 (by show w1.heap.size < _; omega) hb2
    have b3 := cellOn a3 (by show w1.heap.size < _; omega) hb2
    clear a0 a1 a2 a3
    go_wp2_with fail
    refine (specPostText_any (a, b, c, d) many w2 (by show a.size ≤ maxLen; simp only [maxLen]; omega) (by show b.size ≤ maxLen; simp only [maxLen]; omega) (by show c.size ≤ maxLen; simp only [maxLen]; omega)).mono ?_
    rintro e w3 ⟨rfl, hb3⟩
    have hs3 := hb3.size
    rw [HX.out]
    have hbC := hbB.trans (hb3.mono hbB.size)
    have c0 := cellOn b0 (by show w1.heap.size < _; omega) hb3
    have c1 := cellOn b1 (by show w1.heap.size < _; omega) hb3
    have c2 := cellOn b2 (by show w1.heap.size < _; omega) hb3
    have c3 := cellOn b3 (by show w1.heap.size < _; omega) hb3
    clear b0 b1 b2 b3
    by_cases hv : ivB (a, b, c, d) = true
    · by_cases hi : inB many 4 80 = true
      · obtain ⟨hm4, hm80⟩ : 4 ≤ many ∧ many ≤ 80 := by unfold inB at hi; simpa using hi
        obtain ⟨m, rfl⟩ := Int.eq_ofNat_of_zero_le (by omega : 0 ≤ many)
        have m1 : decide ((m : Int) < 4) = false := decide_eq_false (by omega)
        have m2 : decide (80 < (m : Int)) = false := decide_eq_false (by omega)
        obtain ⟨J, hJ⟩ : ∃ J, jT (a, b, c, d) = J := ⟨_, rfl⟩
        have HXJ := Lib.hid (show ctOf J (m : Int) = x by rw [← hJ, ← HX.out, ptOf_yes hv hi]; rfl)
        have HW := Lib.hid ((pt_whole hv).trans hJ)
        have htj : textB J = true := by rw [← hJ]; exact jT_text hv
        obtain ⟨hts, htt⟩ : b.size ≤ J.size ∧ J.extract 0 b.size = b := by rw [← hJ]; exact jT_title hv
        have hJs := (Text.of htj).1
        have hxm : x.size ≤ m := by rw [← HXJ.out]; exact ct_le htj hi
        have k1 : decide ((x.size : Int) ≤ (m : Int)) = true := decide_eq_true (by omega)
        have k1n : decide (x.size ≤ m) = true := decide_eq_true hxm
        have k2 : decide ((b.size : Int) ≤ (J.size : Int)) = true := decide_eq_true (by omega)
        have k2n : decide (b.size ≤ J.size) = true := decide_eq_true hts
        clear hi hJ htj
        go_wp2_with fail
        refine (implItemValid_any a b c d w3 (by simp only [maxLen]; omega) (by simp only [maxLen]; omega) (by simp only [maxLen]; omega)).mono ?_
        rintro e w4 ⟨rfl, hb4⟩
        have hs4 := hb4.size
        have hbD := hbC.trans (hb4.mono hbC.size)
        have d0 := cellOn c0 (by show w1.heap.size < _; omega) hb4
        have d1 := cellOn c1 (by show w1.heap.size < _; omega) hb4
        have d2 := cellOn c2 (by show w1.heap.size < _; omega) hb4
        have d3 := cellOn c3 (by show w1.heap.size < _; omega) hb4
        clear c0 c1 c2 c3
        go_wp2_with fail
        refine (implPostText_any (a, b, c, d) 80 w4 (by show a.size ≤ maxLen; simp only [maxLen]; omega) (by show b.size ≤ maxLen; simp only [maxLen]; omega) (by show c.size ≤ maxLen; simp only [maxLen]; omega)).mono ?_
        rintro e w5 ⟨rfl, hb5⟩
        have hs5 := hb5.size
        rw [HW.out]
        have hbE := hbD.trans (hb5.mono hbD.size)
        have f0 := cellOn d0 (by show w1.heap.size < _; omega) hb5
        have f1 := cellOn d1 (by show w1.heap.size < _; omega) hb5
        have f2 := cellOn d2 (by show w1.heap.size < _; omega) hb5
        have f3 := cellOn d3 (by show w1.heap.size < _; omega) hb5
        clear d0 d1 d2 d3
        have hz5 : w1.heap.size < w5.heap.size := by omega
        have g0 := fun (z : Bel w5.heap.size w5) => Bel.cell f0 hz5 z
        have g1 := fun (z : Bel w5.heap.size w5) => Bel.cell f1 hz5 z
        have g2 := fun (z : Bel w5.heap.size w5) => Bel.cell f2 hz5 z
        have g3 := fun (z : Bel w5.heap.size w5) => Bel.cell f3 hz5 z
        have hcall := fun (z : Bel w5.heap.size w5) => implCutText_any J (m : Int) z.u (by simp only [maxLen]; omega)
        rw [HXJ.out] at hcall
        have HC := Lib.hid hcall
        clear hcall
        have hbs : (b.toList == b.toList) = true := beq_self_eq_true _
        have hxs : (x.toList == x.toList) = true := beq_self_eq_true _
        go_wp2_with fail
        refine wp_region_bel w5.heap.size (by kernel_rfl) (by kernel_rfl) ?_
        repeat (go_big_quiet_step (first | (go_at_call 13; exact Calls.bel_same (still_of (HC.out _)))))
        refine wpQuiet_nil ?_
        intro _ hw'
        obtain ⟨z, hw''⟩ := hw'
        subst hw''
        have hzh := z.h
        go_wp2_with fail
        go_ret
        exact ⟨rfl, hbE.trans (hzh.mono hbE.size)⟩
      · have hi' : inB many 4 80 = false := by simpa using hi
        obtain rfl : x = { data := #[] } := by rw [← HX.out]; exact ptOf_no2 hi'
        have hm : many < 4 ∨ 80 < many := by
          by_cases q : many < 4
          · exact .inl q
          · by_cases q2 : 80 < many
            · exact .inr q2
            · exfalso; exact hi (inB_true (by omega) (by omega))
        clear hi
        go_wp2_with fail
        refine (implItemValid_any a b c d w3 (by simp only [maxLen]; omega) (by simp only [maxLen]; omega) (by simp only [maxLen]; omega)).mono ?_
        rintro e w4 ⟨rfl, hb4⟩
        have hs4 := hb4.size
        have hbD := hbC.trans (hb4.mono hbC.size)
        have d0 := cellOn c0 (by show w1.heap.size < _; omega) hb4
        have d1 := cellOn c1 (by show w1.heap.size < _; omega) hb4
        have d2 := cellOn c2 (by show w1.heap.size < _; omega) hb4
        have d3 := cellOn c3 (by show w1.heap.size < _; omega) hb4
        clear c0 c1 c2 c3
        by_cases m4 : many < 4
        · have m1 : decide (many < 4) = true := decide_eq_true m4
          go_wp2_with (go_at_call 11; refine (alive_any _).mono ?_; rintro e w' ⟨rfl, rfl⟩)
          go_ret
          exact ⟨rfl, hbD⟩
        · have m1 : decide (many < 4) = false := decide_eq_false m4
          have m2 : decide (80 < many) = true := decide_eq_true (by omega)
          go_wp2_with (go_at_call 11; refine (alive_any _).mono ?_; rintro e w' ⟨rfl, rfl⟩)
          go_ret
          exact ⟨rfl, hbD⟩
    · have hv' : ivB (a, b, c, d) = false := by simpa using hv
      obtain rfl : x = { data := #[] } := by rw [← HX.out]; exact ptOf_no1 hv'
      clear hv
      go_wp2_with fail
      refine (implItemValid_any a b c d w3 (by simp only [maxLen]; omega) (by simp only [maxLen]; omega) (by simp only [maxLen]; omega)).mono ?_
      rintro e w4 ⟨rfl, hb4⟩
      have hs4 := hb4.size
      have hbD := hbC.trans (hb4.mono hbC.size)
      have d0 := cellOn c0 (by show w1.heap.size < _; omega) hb4
      have d1 := cellOn c1 (by show w1.heap.size < _; omega) hb4
      have d2 := cellOn c2 (by show w1.heap.size < _; omega) hb4
      have d3 := cellOn c3 (by show w1.heap.size < _; omega) hb4
      clear c0 c1 c2 c3
      rw [hv']
      go_wp2_with (go_at_call 11; refine (alive_any _).mono ?_; rintro e w' ⟨rfl, rfl⟩)
      go_ret
      exact ⟨rfl, hbD⟩
  · have hd : decide (1048576 < (cs.length : Int)) = true := decide_eq_true (by omega)
    go_enter Try.func6, Try.ntmps6
    go_wp2
    go_ret
    exact ⟨rfl, Below.refl _ _⟩
end Go.Proofs.Ytnmgfpphihieiaa
