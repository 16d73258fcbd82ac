/- PostText: plain laws; walked. -/
import Derived.Test.YtnmgfpphihieiaaPlainOfB
import Derived.Test.YtnmgfpphihieiaaItemV
import Derived.Test.YtnmgfpphihieiaaTextA
import Derived.Test.YtnmgfpphihieiaaTextB
import Derived.Test.YtnmgfpphihieiaaItem
namespace Go.Proofs.Ytnmgfpphihieiaa
open Go.RowKit
def midT : ByteArray := { data := #[58, 32] }
/-- A title, and a sentence if there is one. -/
def joinT (t b : ByteArray) : ByteArray := if b.size = 0 then t else t ++ (midT ++ b)
theorem joinT_no {t b : ByteArray} (h : b.size = 0) : joinT t b = t := if_pos h
theorem joinT_yes {t b : ByteArray} (h : ¬ b.size = 0) : joinT t b = t ++ (midT ++ b) := if_neg h
/-- PostText's answer. -/
def ptOf (p : ElItem) (many : Int) : ByteArray := if (ivB p && inB many 4 80) = true then ctOf ((joinT p.2.1 (fsOf (plainOf p.2.2.1))).extract 0 80) many else { data := #[] }
theorem ptOf_yes {p : ElItem} {many : Int} (h : ivB p = true) (h2 : inB many 4 80 = true) : ptOf p many = ctOf ((joinT p.2.1 (fsOf (plainOf p.2.2.1))).extract 0 80) many := if_pos (by rw [h, h2]; rfl)
theorem ptOf_no1 {p : ElItem} {many : Int} (h : ivB p = false) : ptOf p many = { data := #[] } := if_neg (by rw [h]; simp)
theorem ptOf_no2 {p : ElItem} {many : Int} (h2 : inB many 4 80 = false) : ptOf p many = { data := #[] } := if_neg (by rw [h2]; simp)
theorem ext80 {s : ByteArray} (h : s.size ≤ 80) : s.extract 0 80 = s := by
  apply ba_bb
  · rw [ByteArray.size_extract]; omega
  · intro k hk
    rw [ByteArray.size_extract] at hk
    rw [show s.extract 0 80 = s.extract 0 s.size by
      apply ByteArray.ext_getElem
      · rw [ByteArray.size_extract, ByteArray.size_extract]; omega
      · intro i h1 h2; rw [ByteArray.getElem_extract, ByteArray.getElem_extract]]
    rw [bb_extract (Nat.le_refl _) (by omega), Nat.zero_add]
theorem ext80l {s : ByteArray} : s.extract 0 (min s.size 80) = s.extract 0 80 := by
  rcases Nat.le_total s.size 80 with h | h
  · rw [Nat.min_eq_left h, ext80 h]
    exact ByteArray.extract_zero_size
  · rw [Nat.min_eq_right h]
theorem iv_text {p : ElItem} (h : ivB p = true) : textB p.2.1 = true := by
  unfold ivB at h; simp only [Bool.and_eq_true] at h; exact h.2.1
/-- What is left has the text's signs. -/
theorem plS_tok {s : ByteArray} (h : Text s) : ∀ k, k ≤ s.size → ∀ j, j < (plS s k).1.size → 32 ≤ bb (plS s k).1 j ∧ bb (plS s k).1 j ≤ 126
  | 0, _, j, hj => absurd hj (by simp [plS])
  | k + 1, hk, j, hj => by
    have ih := plS_tok h k (by omega)
    rw [plS_succ] at hj ⊢
    split
    · next c => rw [if_pos c] at hj; exact ih j hj
    · next c =>
      rw [if_neg c] at hj
      split
      · next c2 => rw [if_pos c2] at hj; exact ih j hj
      · next c2 =>
        rw [if_neg c2] at hj
        split
        · next c3 =>
          rw [if_pos c3] at hj
          by_cases hjk : j < (plS s k).1.size
          · show 32 ≤ bb ((plS s k).1 ++ s.extract k (k + 1)) j ∧ bb ((plS s k).1 ++ s.extract k (k + 1)) j ≤ 126
            rw [bb_left hjk]; exact ih j hjk
          · have hj2 : j < ((plS s k).1 ++ s.extract k (k + 1)).size := hj
            rw [ByteArray.size_append, size_ext (by omega)] at hj2
            have e : j = (plS s k).1.size + 0 := by omega
            show 32 ≤ bb ((plS s k).1 ++ s.extract k (k + 1)) j ∧ bb ((plS s k).1 ++ s.extract k (k + 1)) j ≤ 126
            rw [e, bb_right, bb_extract (by omega) (by omega)]
            exact h.2 _ (by omega)
        · next c3 => rw [if_neg c3] at hj; exact ih j hj
theorem plainOf_text {s : ByteArray} : textB (plainOf s) = true := by
  cases hv : textB s
  · rw [plainOf_no hv]; decide
  · refine textB_true ⟨plainOf_size s, fun j hj => ?_⟩
    rw [plainOf_yes hv] at hj ⊢
    exact plS_tok (Text.of hv) s.size (Nat.le_refl _) j hj
theorem fsOf_nil {s : ByteArray} (h : textB s = true) : (fsOf s).size = 0 ↔ s.size = 0 := by
  rw [fsOf_yes h, size_ext (fsLen_le s)]
  unfold fsLen
  split <;> omega
set_option maxHeartbeats 1600000 in
theorem implPostText_any (p : ElItem) (many : Int) (w : World) (ha : p.1.size ≤ maxLen) (hb : p.2.1.size ≤ maxLen) (hc : p.2.2.1.size ≤ maxLen) : Calls Try.prog 18 #[.agg #[.string p.1, .string p.2.1, .string p.2.2.1, .int .i64 p.2.2.2], .int .i64 many] w fun e w' => e = .returned (.string (ptOf p many)) ∧ Below w.heap.size w w' := by
  obtain ⟨a, b, c, d⟩ := p
  have ha : a.size ≤ maxLen := ha
  have hb : b.size ≤ maxLen := hb
  have hc : c.size ≤ maxLen := hc
  show Calls Try.prog 18 #[.agg #[.string a, .string b, .string c, .int .i64 d], .int .i64 many] w _
  have hbA : Below w.heap.size w (w.alloc (.cells #[.string a, .string b, .string c, .int .i64 d] 35)) := (Below.refl _ _).alloc (Nat.le_refl _) _
  have e0 : (w.alloc (.cells #[.string a, .string b, .string c, .int .i64 d] 35)).cell? ⟨w.heap.size, 0, none⟩ = some (.string a) := by rw [World.cell?_alloc_at _ _ _ _ rfl]; rfl
  have e1 : (w.alloc (.cells #[.string a, .string b, .string c, .int .i64 d] 35)).cell? ⟨w.heap.size, 1, none⟩ = some (.string b) := by rw [World.cell?_alloc_at _ _ _ _ rfl]; rfl
  have e2 : (w.alloc (.cells #[.string a, .string b, .string c, .int .i64 d] 35)).cell? ⟨w.heap.size, 2, none⟩ = some (.string c) := by rw [World.cell?_alloc_at _ _ _ _ rfl]; rfl
  have e3 : (w.alloc (.cells #[.string a, .string b, .string c, .int .i64 d] 35)).cell? ⟨w.heap.size, 3, none⟩ = some (.int .i64 d) := by rw [World.cell?_alloc_at _ _ _ _ rfl]; rfl
  have hzA : w.heap.size < (w.alloc (.cells #[.string a, .string b, .string c, .int .i64 d] 35)).heap.size := by simp
  by_cases hv : ivB (a, b, c, d) = true
  · have htx := iv_text hv
    have hbs := (Text.of htx).1
    have hbs2 : b.size ≤ 80 := hbs
    clear htx hbs
    obtain ⟨pl, hpl⟩ : ∃ pl, plainOf c = pl := ⟨_, rfl⟩
    have HPL := Lib.hid hpl
    have hps : pl.size ≤ 80 := by rw [← hpl]; exact plainOf_size c
    have hps2 : pl.size ≤ maxLen := by simp only [maxLen]; omega
    have HFT : Hid (textB pl = true) := Lib.hid (by rw [← hpl]; exact plainOf_text)
    clear hpl
    have hfs := fsOf_size pl
    obtain ⟨x, hx⟩ : ∃ x, fsOf pl = x := ⟨_, rfl⟩
    have HX := Lib.hid hx
    rw [hx] at hfs
    clear hx
    have HPT : Hid (inB many 4 80 = true → ptOf (a, b, c, d) many = ctOf ((joinT b x).extract 0 80) many) := Lib.hid (fun h2 => by rw [ptOf_yes hv h2]; show ctOf ((joinT b (fsOf (plainOf c))).extract 0 80) many = _; rw [HPL.out, HX.out])
    cases hi : inB many 4 80
    · have HQ := Lib.hid (ptOf_no2 (p := (a, b, c, d)) hi)
      go_enter Try.func18, Try.ntmps18
      go_wp2_with fail
      generalize (w.alloc (.cells #[.string a, .string b, .string c, .int .i64 d] 35)) = wA at *
      refine (implItemValid_any a b c d wA ha hb hc).mono ?_
      rintro e w1 ⟨rfl, hb1⟩
      have hbw := hbA.trans (hb1.mono hbA.size)
      have f0 := (hb1.cell (p := ⟨w.heap.size, 0, none⟩) hzA).trans e0
      have f1 := (hb1.cell (p := ⟨w.heap.size, 1, none⟩) hzA).trans e1
      have f2 := (hb1.cell (p := ⟨w.heap.size, 2, none⟩) hzA).trans e2
      have f3 := (hb1.cell (p := ⟨w.heap.size, 3, none⟩) hzA).trans e3
      clear e0 e1 e2 e3
      go_wp2_with fail
      refine (within_any _ _ _ w1).mono ?_
      rintro e w' ⟨rfl, rfl⟩
      rw [hi]
      go_wp2_with fail
      go_ret
      exact ⟨ret_st HQ.out.symm, hbw⟩
    · have HI := Lib.hid hi
      by_cases hn : x.size = 0
      · skip
        have hp0 : pl.size = 0 := (fsOf_nil HFT.out).1 (by rw [HX.out]; exact hn)
        have t1 := tl_nil.2 hp0
        have t2 := tl_nil.2 hn
        have HJ := Lib.hid (joinT_no (t := b) hn)
        go_enter Try.func18, Try.ntmps18
        go_wp2_with fail
        generalize (w.alloc (.cells #[.string a, .string b, .string c, .int .i64 d] 35)) = wA at *
        refine (implItemValid_any a b c d wA ha hb hc).mono ?_
        rintro e w1 ⟨rfl, hb1⟩
        have hbw := hbA.trans (hb1.mono hbA.size)
        have f0 := (hb1.cell (p := ⟨w.heap.size, 0, none⟩) hzA).trans e0
        have f1 := (hb1.cell (p := ⟨w.heap.size, 1, none⟩) hzA).trans e1
        have f2 := (hb1.cell (p := ⟨w.heap.size, 2, none⟩) hzA).trans e2
        have f3 := (hb1.cell (p := ⟨w.heap.size, 3, none⟩) hzA).trans e3
        clear e0 e1 e2 e3
        go_wp2_with fail
        refine (within_any _ _ _ w1).mono ?_
        rintro e w' ⟨rfl, rfl⟩
        rw [HI.out]
        have z1 : b = (joinT b x).extract 0 80 := by rw [HJ.out, ext80 hbs2]
        have Z1 := Lib.hid z1
        clear z1
        go_wp2_with (first | (go_at_call 30; refine (implPlainOf_any c _ hc).mono ?_; rintro e w' ⟨rfl, rfl⟩; rw [HPL.out]) | (go_at_call 8; refine (implFirstSentence_any pl _ hps2).mono ?_; rintro e w' ⟨rfl, rfl⟩; rw [HX.out]))
        all_goals
          refine (implCutText_any _ many w1 (by have h2 : (({ data := #[58, 32] } : ByteArray)).size = 2 := rfl; simp only [ByteArray.size_extract, ByteArray.size_append, h2, maxLen]; omega)).mono ?_
          rintro e w' ⟨rfl, rfl⟩
          go_wp2_with fail
          go_ret
          exact ⟨ret_st (by rw [HPT.out HI.out]; exact congrArg (fun z => ctOf z many) Z1.out), hbw⟩
      · skip
        have hp0 : ¬ pl.size = 0 := fun h => hn (by rw [← HX.out]; exact (fsOf_nil HFT.out).2 h)
        have t1 : ¬ pl.toList = [] := fun h => hp0 (tl_nil.1 h)
        have t2 : ¬ x.toList = [] := fun h => hn (tl_nil.1 h)
        have u1 : pl.toList.isEmpty = false := by rw [tl_empty]; exact beq_eq_false_iff_ne.2 hp0
        have u2 : x.toList.isEmpty = false := by rw [tl_empty]; exact beq_eq_false_iff_ne.2 hn
        have HJ := Lib.hid (joinT_yes (t := b) hn)
        go_enter Try.func18, Try.ntmps18
        go_wp2_with fail
        generalize (w.alloc (.cells #[.string a, .string b, .string c, .int .i64 d] 35)) = wA at *
        refine (implItemValid_any a b c d wA ha hb hc).mono ?_
        rintro e w1 ⟨rfl, hb1⟩
        have hbw := hbA.trans (hb1.mono hbA.size)
        have f0 := (hb1.cell (p := ⟨w.heap.size, 0, none⟩) hzA).trans e0
        have f1 := (hb1.cell (p := ⟨w.heap.size, 1, none⟩) hzA).trans e1
        have f2 := (hb1.cell (p := ⟨w.heap.size, 2, none⟩) hzA).trans e2
        have f3 := (hb1.cell (p := ⟨w.heap.size, 3, none⟩) hzA).trans e3
        clear e0 e1 e2 e3
        go_wp2_with fail
        refine (within_any _ _ _ w1).mono ?_
        rintro e w' ⟨rfl, rfl⟩
        rw [HI.out]
        have hOs : (b ++ (midT ++ x)).size = b.size + (2 + x.size) := by rw [ByteArray.size_append, ByteArray.size_append]; rfl
        have HO := Lib.hid hOs
        clear hOs
        have Z8 : Hid ((b ++ (midT ++ x)).extract 0 80 = (joinT b x).extract 0 80) := Lib.hid (by rw [HJ.out])
        have ZL : Hid (b.size + (2 + x.size) ≤ 80 → (b ++ (midT ++ x)).extract 0 ((b.size : Int) + (2 + (x.size : Int))).toNat = (joinT b x).extract 0 80) := Lib.hid (fun h => by
          rw [HJ.out, show ((b.size : Int) + (2 + (x.size : Int))).toNat = (b ++ (midT ++ x)).size by rw [HO.out]; omega, ByteArray.extract_zero_size, ext80 (by rw [HO.out]; exact h)])
        have ZS : Hid (b.size + (2 + x.size) ≤ 80 → b ++ midT ++ x = (joinT b x).extract 0 80) := Lib.hid (fun h => by
          rw [HJ.out, ByteArray.append_assoc, ext80 (by rw [HO.out]; exact h)])
        have ZT : Hid ((b ++ midT ++ x).extract 0 80 = (joinT b x).extract 0 80) := Lib.hid (by rw [HJ.out, ByteArray.append_assoc])
        go_wp2_with (first | (go_at_call 30; refine (implPlainOf_any c _ hc).mono ?_; rintro e w' ⟨rfl, rfl⟩; rw [HPL.out]) | (go_at_call 8; refine (implFirstSentence_any pl _ hps2).mono ?_; rintro e w' ⟨rfl, rfl⟩; rw [HX.out]))
        all_goals
          refine (implCutText_any _ many w1 (by have h2 : (({ data := #[58, 32] } : ByteArray)).size = 2 := rfl; simp only [ByteArray.size_extract, ByteArray.size_append, h2, maxLen]; omega)).mono ?_
          rintro e w' ⟨rfl, rfl⟩
          go_wp2_with fail
          go_ret
          exact ⟨ret_st (by rw [HPT.out HI.out]; refine congrArg (fun z => ctOf z many) ?_; first | exact Z8.out | exact ZT.out | exact ZL.out (by omega) | exact ZS.out (by omega)), hbw⟩
  · have hv' : ivB (a, b, c, d) = false := by simpa using hv
    have HQ := Lib.hid (ptOf_no1 (many := many) hv')
    clear hv
    go_enter Try.func18, Try.ntmps18
    go_wp2_with fail
    generalize (w.alloc (.cells #[.string a, .string b, .string c, .int .i64 d] 35)) = wA at *
    refine (implItemValid_any a b c d wA ha hb hc).mono ?_
    rintro e w1 ⟨rfl, hb1⟩
    have hbw := hbA.trans (hb1.mono hbA.size)
    have f0 := (hb1.cell (p := ⟨w.heap.size, 0, none⟩) hzA).trans e0
    have f1 := (hb1.cell (p := ⟨w.heap.size, 1, none⟩) hzA).trans e1
    have f2 := (hb1.cell (p := ⟨w.heap.size, 2, none⟩) hzA).trans e2
    have f3 := (hb1.cell (p := ⟨w.heap.size, 3, none⟩) hzA).trans e3
    clear e0 e1 e2 e3
    rw [hv']
    go_wp2_with fail
    go_ret
    exact ⟨ret_st HQ.out.symm, hbw⟩
set_option maxHeartbeats 1600000 in
theorem specPostText_any (p : ElItem) (many : Int) (w : World) (ha : p.1.size ≤ maxLen) (hb : p.2.1.size ≤ maxLen) (hc : p.2.2.1.size ≤ maxLen) : Calls Try.prog 16 #[.agg #[.string p.1, .string p.2.1, .string p.2.2.1, .int .i64 p.2.2.2], .int .i64 many] w fun e w' => e = .returned (.string (ptOf p many)) ∧ Below w.heap.size w w' := by
  obtain ⟨a, b, c, d⟩ := p
  have ha : a.size ≤ maxLen := ha
  have hb : b.size ≤ maxLen := hb
  have hc : c.size ≤ maxLen := hc
  show Calls Try.prog 16 #[.agg #[.string a, .string b, .string c, .int .i64 d], .int .i64 many] w _
  have hbA : Below w.heap.size w (w.alloc (.cells #[.string a, .string b, .string c, .int .i64 d] 35)) := (Below.refl _ _).alloc (Nat.le_refl _) _
  have e0 : (w.alloc (.cells #[.string a, .string b, .string c, .int .i64 d] 35)).cell? ⟨w.heap.size, 0, none⟩ = some (.string a) := by rw [World.cell?_alloc_at _ _ _ _ rfl]; rfl
  have e1 : (w.alloc (.cells #[.string a, .string b, .string c, .int .i64 d] 35)).cell? ⟨w.heap.size, 1, none⟩ = some (.string b) := by rw [World.cell?_alloc_at _ _ _ _ rfl]; rfl
  have e2 : (w.alloc (.cells #[.string a, .string b, .string c, .int .i64 d] 35)).cell? ⟨w.heap.size, 2, none⟩ = some (.string c) := by rw [World.cell?_alloc_at _ _ _ _ rfl]; rfl
  have e3 : (w.alloc (.cells #[.string a, .string b, .string c, .int .i64 d] 35)).cell? ⟨w.heap.size, 3, none⟩ = some (.int .i64 d) := by rw [World.cell?_alloc_at _ _ _ _ rfl]; rfl
  have hzA : w.heap.size < (w.alloc (.cells #[.string a, .string b, .string c, .int .i64 d] 35)).heap.size := by simp
  by_cases hv : ivB (a, b, c, d) = true
  · have htx := iv_text hv
    have hbs := (Text.of htx).1
    have hbs2 : b.size ≤ 80 := hbs
    clear htx hbs
    obtain ⟨pl, hpl⟩ : ∃ pl, plainOf c = pl := ⟨_, rfl⟩
    have HPL := Lib.hid hpl
    have hps : pl.size ≤ 80 := by rw [← hpl]; exact plainOf_size c
    have hps2 : pl.size ≤ maxLen := by simp only [maxLen]; omega
    have HFT : Hid (textB pl = true) := Lib.hid (by rw [← hpl]; exact plainOf_text)
    clear hpl
    have hfs := fsOf_size pl
    obtain ⟨x, hx⟩ : ∃ x, fsOf pl = x := ⟨_, rfl⟩
    have HX := Lib.hid hx
    rw [hx] at hfs
    clear hx
    have HPT : Hid (inB many 4 80 = true → ptOf (a, b, c, d) many = ctOf ((joinT b x).extract 0 80) many) := Lib.hid (fun h2 => by rw [ptOf_yes hv h2]; show ctOf ((joinT b (fsOf (plainOf c))).extract 0 80) many = _; rw [HPL.out, HX.out])
    cases hi : inB many 4 80
    · have HI := Lib.hid hi
      have HQ := Lib.hid (ptOf_no2 (p := (a, b, c, d)) hi)
      by_cases hn : x.size = 0
      · skip
        have hp0 : pl.size = 0 := (fsOf_nil HFT.out).1 (by rw [HX.out]; exact hn)
        have t1 := tl_nil.2 hp0
        have t2 := tl_nil.2 hn
        have HJ := Lib.hid (joinT_no (t := b) hn)
        go_enter Try.func16, Try.ntmps16
        go_wp2_with fail
        generalize (w.alloc (.cells #[.string a, .string b, .string c, .int .i64 d] 35)) = wA at *
        refine (specItemValid_any a b c d wA ha hb hc).mono ?_
        rintro e w1 ⟨rfl, hb1⟩
        have hbw := hbA.trans (hb1.mono hbA.size)
        have f0 := (hb1.cell (p := ⟨w.heap.size, 0, none⟩) hzA).trans e0
        have f1 := (hb1.cell (p := ⟨w.heap.size, 1, none⟩) hzA).trans e1
        have f2 := (hb1.cell (p := ⟨w.heap.size, 2, none⟩) hzA).trans e2
        have f3 := (hb1.cell (p := ⟨w.heap.size, 3, none⟩) hzA).trans e3
        clear e0 e1 e2 e3
        have z1 : b = (joinT b x).extract 0 80 := by rw [HJ.out, ext80 hbs2]
        have Z1 := Lib.hid z1
        clear z1
        go_wp2_with (first | (go_at_call 29; refine (specPlainOf_any c _ hc).mono ?_; rintro e w' ⟨rfl, rfl⟩; rw [HPL.out]) | (go_at_call 9; refine (specFirstSentence_any pl _ hps2).mono ?_; rintro e w' ⟨rfl, rfl⟩; rw [HX.out]))
        all_goals
          refine (specCutText_any _ many w1 (by have h2 : (({ data := #[58, 32] } : ByteArray)).size = 2 := rfl; simp only [ByteArray.size_extract, ByteArray.size_append, h2, maxLen]; omega)).mono ?_
          rintro e w' ⟨rfl, rfl⟩
          go_wp2_with fail
          go_ret
          exact ⟨ret_st ((ctOf_no2 HI.out).trans HQ.out.symm), hbw⟩
      · skip
        have hp0 : ¬ pl.size = 0 := fun h => hn (by rw [← HX.out]; exact (fsOf_nil HFT.out).2 h)
        have t1 : ¬ pl.toList = [] := fun h => hp0 (tl_nil.1 h)
        have t2 : ¬ x.toList = [] := fun h => hn (tl_nil.1 h)
        have u1 : pl.toList.isEmpty = false := by rw [tl_empty]; exact beq_eq_false_iff_ne.2 hp0
        have u2 : x.toList.isEmpty = false := by rw [tl_empty]; exact beq_eq_false_iff_ne.2 hn
        have HJ := Lib.hid (joinT_yes (t := b) hn)
        go_enter Try.func16, Try.ntmps16
        go_wp2_with fail
        generalize (w.alloc (.cells #[.string a, .string b, .string c, .int .i64 d] 35)) = wA at *
        refine (specItemValid_any a b c d wA ha hb hc).mono ?_
        rintro e w1 ⟨rfl, hb1⟩
        have hbw := hbA.trans (hb1.mono hbA.size)
        have f0 := (hb1.cell (p := ⟨w.heap.size, 0, none⟩) hzA).trans e0
        have f1 := (hb1.cell (p := ⟨w.heap.size, 1, none⟩) hzA).trans e1
        have f2 := (hb1.cell (p := ⟨w.heap.size, 2, none⟩) hzA).trans e2
        have f3 := (hb1.cell (p := ⟨w.heap.size, 3, none⟩) hzA).trans e3
        clear e0 e1 e2 e3
        have hOs : (b ++ (midT ++ x)).size = b.size + (2 + x.size) := by rw [ByteArray.size_append, ByteArray.size_append]; rfl
        have HO := Lib.hid hOs
        clear hOs
        have Z8 : Hid ((b ++ (midT ++ x)).extract 0 80 = (joinT b x).extract 0 80) := Lib.hid (by rw [HJ.out])
        have ZL : Hid (b.size + (2 + x.size) ≤ 80 → (b ++ (midT ++ x)).extract 0 ((b.size : Int) + (2 + (x.size : Int))).toNat = (joinT b x).extract 0 80) := Lib.hid (fun h => by
          rw [HJ.out, show ((b.size : Int) + (2 + (x.size : Int))).toNat = (b ++ (midT ++ x)).size by rw [HO.out]; omega, ByteArray.extract_zero_size, ext80 (by rw [HO.out]; exact h)])
        have ZS : Hid (b.size + (2 + x.size) ≤ 80 → b ++ midT ++ x = (joinT b x).extract 0 80) := Lib.hid (fun h => by
          rw [HJ.out, ByteArray.append_assoc, ext80 (by rw [HO.out]; exact h)])
        have ZT : Hid ((b ++ midT ++ x).extract 0 80 = (joinT b x).extract 0 80) := Lib.hid (by rw [HJ.out, ByteArray.append_assoc])
        go_wp2_with (first | (go_at_call 29; refine (specPlainOf_any c _ hc).mono ?_; rintro e w' ⟨rfl, rfl⟩; rw [HPL.out]) | (go_at_call 9; refine (specFirstSentence_any pl _ hps2).mono ?_; rintro e w' ⟨rfl, rfl⟩; rw [HX.out]))
        all_goals
          refine (specCutText_any _ many w1 (by have h2 : (({ data := #[58, 32] } : ByteArray)).size = 2 := rfl; simp only [ByteArray.size_extract, ByteArray.size_append, h2, maxLen]; omega)).mono ?_
          rintro e w' ⟨rfl, rfl⟩
          go_wp2_with fail
          go_ret
          exact ⟨ret_st ((ctOf_no2 HI.out).trans HQ.out.symm), hbw⟩
    · have HI := Lib.hid hi
      by_cases hn : x.size = 0
      · skip
        have hp0 : pl.size = 0 := (fsOf_nil HFT.out).1 (by rw [HX.out]; exact hn)
        have t1 := tl_nil.2 hp0
        have t2 := tl_nil.2 hn
        have HJ := Lib.hid (joinT_no (t := b) hn)
        go_enter Try.func16, Try.ntmps16
        go_wp2_with fail
        generalize (w.alloc (.cells #[.string a, .string b, .string c, .int .i64 d] 35)) = wA at *
        refine (specItemValid_any a b c d wA ha hb hc).mono ?_
        rintro e w1 ⟨rfl, hb1⟩
        have hbw := hbA.trans (hb1.mono hbA.size)
        have f0 := (hb1.cell (p := ⟨w.heap.size, 0, none⟩) hzA).trans e0
        have f1 := (hb1.cell (p := ⟨w.heap.size, 1, none⟩) hzA).trans e1
        have f2 := (hb1.cell (p := ⟨w.heap.size, 2, none⟩) hzA).trans e2
        have f3 := (hb1.cell (p := ⟨w.heap.size, 3, none⟩) hzA).trans e3
        clear e0 e1 e2 e3
        have z1 : b = (joinT b x).extract 0 80 := by rw [HJ.out, ext80 hbs2]
        have Z1 := Lib.hid z1
        clear z1
        go_wp2_with (first | (go_at_call 29; refine (specPlainOf_any c _ hc).mono ?_; rintro e w' ⟨rfl, rfl⟩; rw [HPL.out]) | (go_at_call 9; refine (specFirstSentence_any pl _ hps2).mono ?_; rintro e w' ⟨rfl, rfl⟩; rw [HX.out]))
        all_goals
          refine (specCutText_any _ many w1 (by have h2 : (({ data := #[58, 32] } : ByteArray)).size = 2 := rfl; simp only [ByteArray.size_extract, ByteArray.size_append, h2, maxLen]; omega)).mono ?_
          rintro e w' ⟨rfl, rfl⟩
          go_wp2_with fail
          go_ret
          exact ⟨ret_st (by rw [HPT.out HI.out]; exact congrArg (fun z => ctOf z many) Z1.out), hbw⟩
      · skip
        have hp0 : ¬ pl.size = 0 := fun h => hn (by rw [← HX.out]; exact (fsOf_nil HFT.out).2 h)
        have t1 : ¬ pl.toList = [] := fun h => hp0 (tl_nil.1 h)
        have t2 : ¬ x.toList = [] := fun h => hn (tl_nil.1 h)
        have u1 : pl.toList.isEmpty = false := by rw [tl_empty]; exact beq_eq_false_iff_ne.2 hp0
        have u2 : x.toList.isEmpty = false := by rw [tl_empty]; exact beq_eq_false_iff_ne.2 hn
        have HJ := Lib.hid (joinT_yes (t := b) hn)
        go_enter Try.func16, Try.ntmps16
        go_wp2_with fail
        generalize (w.alloc (.cells #[.string a, .string b, .string c, .int .i64 d] 35)) = wA at *
        refine (specItemValid_any a b c d wA ha hb hc).mono ?_
        rintro e w1 ⟨rfl, hb1⟩
        have hbw := hbA.trans (hb1.mono hbA.size)
        have f0 := (hb1.cell (p := ⟨w.heap.size, 0, none⟩) hzA).trans e0
        have f1 := (hb1.cell (p := ⟨w.heap.size, 1, none⟩) hzA).trans e1
        have f2 := (hb1.cell (p := ⟨w.heap.size, 2, none⟩) hzA).trans e2
        have f3 := (hb1.cell (p := ⟨w.heap.size, 3, none⟩) hzA).trans e3
        clear e0 e1 e2 e3
        have hOs : (b ++ (midT ++ x)).size = b.size + (2 + x.size) := by rw [ByteArray.size_append, ByteArray.size_append]; rfl
        have HO := Lib.hid hOs
        clear hOs
        have Z8 : Hid ((b ++ (midT ++ x)).extract 0 80 = (joinT b x).extract 0 80) := Lib.hid (by rw [HJ.out])
        have ZL : Hid (b.size + (2 + x.size) ≤ 80 → (b ++ (midT ++ x)).extract 0 ((b.size : Int) + (2 + (x.size : Int))).toNat = (joinT b x).extract 0 80) := Lib.hid (fun h => by
          rw [HJ.out, show ((b.size : Int) + (2 + (x.size : Int))).toNat = (b ++ (midT ++ x)).size by rw [HO.out]; omega, ByteArray.extract_zero_size, ext80 (by rw [HO.out]; exact h)])
        have ZS : Hid (b.size + (2 + x.size) ≤ 80 → b ++ midT ++ x = (joinT b x).extract 0 80) := Lib.hid (fun h => by
          rw [HJ.out, ByteArray.append_assoc, ext80 (by rw [HO.out]; exact h)])
        have ZT : Hid ((b ++ midT ++ x).extract 0 80 = (joinT b x).extract 0 80) := Lib.hid (by rw [HJ.out, ByteArray.append_assoc])
        go_wp2_with (first | (go_at_call 29; refine (specPlainOf_any c _ hc).mono ?_; rintro e w' ⟨rfl, rfl⟩; rw [HPL.out]) | (go_at_call 9; refine (specFirstSentence_any pl _ hps2).mono ?_; rintro e w' ⟨rfl, rfl⟩; rw [HX.out]))
        all_goals
          refine (specCutText_any _ many w1 (by have h2 : (({ data := #[58, 32] } : ByteArray)).size = 2 := rfl; simp only [ByteArray.size_extract, ByteArray.size_append, h2, maxLen]; omega)).mono ?_
          rintro e w' ⟨rfl, rfl⟩
          go_wp2_with fail
          go_ret
          exact ⟨ret_st (by rw [HPT.out HI.out]; refine congrArg (fun z => ctOf z many) ?_; first | exact Z8.out | exact ZT.out | exact ZL.out (by omega) | exact ZS.out (by omega)), hbw⟩
  · have hv' : ivB (a, b, c, d) = false := by simpa using hv
    have HQ := Lib.hid (ptOf_no1 (many := many) hv')
    clear hv
    go_enter Try.func16, Try.ntmps16
    go_wp2_with fail
    generalize (w.alloc (.cells #[.string a, .string b, .string c, .int .i64 d] 35)) = wA at *
    refine (specItemValid_any a b c d wA ha hb hc).mono ?_
    rintro e w1 ⟨rfl, hb1⟩
    have hbw := hbA.trans (hb1.mono hbA.size)
    have f0 := (hb1.cell (p := ⟨w.heap.size, 0, none⟩) hzA).trans e0
    have f1 := (hb1.cell (p := ⟨w.heap.size, 1, none⟩) hzA).trans e1
    have f2 := (hb1.cell (p := ⟨w.heap.size, 2, none⟩) hzA).trans e2
    have f3 := (hb1.cell (p := ⟨w.heap.size, 3, none⟩) hzA).trans e3
    clear e0 e1 e2 e3
    rw [hv']
    go_wp2_with fail
    go_ret
    exact ⟨ret_st HQ.out.symm, hbw⟩
end Go.Proofs.Ytnmgfpphihieiaa
