import Derived.Test.YtggdfmkenmlbjaaTombA
import Derived.Test.YtggdfmkenmlbjaaTombPlain3
import Derived.Test.YtggdfmkenmlbjaaListsTomb
import Derived.Test.YtggdfmkenmlbjaaWithoutTomb
namespace Go.Proofs.Ytggdfmkenmlbjaa
open Go.RowKit
set_option maxHeartbeats 1600000 in
theorem implBuryKey_any (A : Option Addr) (cap B : Nat) (ts : List ElTomb) (key : ByteArray) (when : Int) (w : World) (h : RdE 2 encTomb w B A ts) (hB : B ≤ w.heap.size) (hl : ts.length ≤ 140737488351232) (hcap : ts.length ≤ cap) (hsz : ∀ k, k < ts.length → (gt ts k).1.size ≤ maxLen) (hw : key.size ≤ maxLen) :
    Calls Try.prog 22 #[.slice A ts.length cap, .string key, .int .i64 when] w fun e w' => ∃ T' cap', e = .returned (.slice T' (buryOf ts key when).length cap') ∧ OwnE 2 encTomb 35 w' w.heap.size T' cap' (buryOf ts key when) ∧ Below w.heap.size w w' := by
  by_cases hv : tmB ts = true
  · have h8 := tm_len hv
    have HD := Lib.hid hsz
    clear hsz
    go_enter Try.func22, Try.ntmps22
    go_wp2_with fail
    refine (implTombsValid_any _ _ B ts w h hB hl hcap HD.out).mono ?_
    rintro e w1 ⟨rfl, hb1⟩
    have hs1 := hb1.size
    by_cases hwd : wordB key = true
    · by_cases hin : inB when 0 1000000000 = true
      · have hr1 := h.below (hb1.mono hB)
        by_cases hlate : 0 < ts.length ∧ when < (gt ts (ts.length - 1)).2
        · obtain ⟨hp, hlt⟩ := hlate
          have HE := Lib.hid (buryOf_no (canB_late (key := key) hp hlt))
          have hdl : decide (when < (gt ts (ts.length - 1)).2) = true := decide_eq_true hlt
          obtain ⟨b, off, rfl, hb, hc⟩ := hr1.at_ (by omega)
          have c1 : w1.cell? ⟨b, off + (ts.length - 1) * 2 + 1, none⟩ = some (Value.int .i64 (gt ts (ts.length - 1)).2) := hc (ts.length - 1) 1 (by omega) (by omega)
          clear hc
          have l1 : decide (0 < (ts.length : Int)) = true := decide_eq_true (by omega)
          have l2 : decide (0 < ts.length) = true := decide_eq_true (by omega)
          have hk1 : ((ts.length : Int) - 1).toNat = ts.length - 1 := by omega
          have hk2 : IntKind.i64.wrap ((ts.length : Int) - 1) = (ts.length : Int) - 1 := IntWalk.i64_in _ (by omega)
          have hk3 : (1 : Int) ≤ (ts.length : Int) := by omega
          have hk4 : (0 : Int) ≤ (ts.length : Int) - 1 := by omega
          have hk5 : (ts.length : Int) - 1 < (ts.length : Int) := by omega
          go_wp2_with (first | (go_at_call 41; refine (implWordValid_any _ _ hw).mono ?_; rintro e w' ⟨rfl, rfl⟩) | (go_at_call 42; refine (within_any _ _ _ _).mono ?_; rintro e w' ⟨rfl, rfl⟩))
          go_ret
          rw [HE.out]
          exact ⟨none, 0, rfl, Own.nil _ _ _ _ _, hb1⟩
        · have hcan : canB ts key when = true := (canB_iff _ _ _).2 ⟨hv, hwd, hin, by omega⟩
          have HE := Lib.hid (buryOf_yes hcan)
          by_cases hp : 0 < ts.length
          ·
            have hdl : decide (when < (gt ts (ts.length - 1)).2) = false := decide_eq_false (by omega)
            obtain ⟨b, off, rfl, hb, hc⟩ := hr1.at_ (by omega)
            have c1 : w1.cell? ⟨b, off + (ts.length - 1) * 2 + 1, none⟩ = some (Value.int .i64 (gt ts (ts.length - 1)).2) := hc (ts.length - 1) 1 (by omega) (by omega)
            clear hc
            have l1 : decide (0 < (ts.length : Int)) = true := decide_eq_true (by omega)
            have l2 : decide (0 < ts.length) = true := decide_eq_true (by omega)
            have hk1 : ((ts.length : Int) - 1).toNat = ts.length - 1 := by omega
            have hk2 : IntKind.i64.wrap ((ts.length : Int) - 1) = (ts.length : Int) - 1 := IntWalk.i64_in _ (by omega)
            have hk3 : (1 : Int) ≤ (ts.length : Int) := by omega
            have hk4 : (0 : Int) ≤ (ts.length : Int) - 1 := by omega
            have hk5 : (ts.length : Int) - 1 < (ts.length : Int) := by omega
            clear hcan hlate
            go_wp2_with (first | (go_at_call 41; refine (implWordValid_any _ _ hw).mono ?_; rintro e w' ⟨rfl, rfl⟩) | (go_at_call 42; refine (within_any _ _ _ _).mono ?_; rintro e w' ⟨rfl, rfl⟩) | (go_at_call 48; refine (copyOfTomb_any _ _ B ts w1 hr1 (by omega)).mono ?_; rintro e w2 ⟨T, c, rfl, hown2, hb2⟩))
            have hb2w := hb1.trans (hb2.mono hs1)
            have hs2 := hb2w.size
            have hown2w := Own.more (base' := w.heap.size) hown2 hs1
            clear c1 hk1 hk2 hk3 hk4 hk5 hdl
            clear l1 l2
            rcases tix_two (ts := ts) (key := key) with hix | ⟨k, hk, hix⟩
            · have hcall := tombOf_any T c w2.heap.size ts key w2 (OwnE.rd hown2) (Nat.le_refl _) hl
              rw [hix] at hcall
              have HX := Lib.hid hix
              clear hix
              refine hcall.mono ?_
              clear hcall
              rintro e w3 ⟨rfl, hb3⟩
              have hb3w := hb2w.trans (hb3.mono hs2)
              have hs3 := hb3w.size
              have hown3 := Own.below hown2w hb3
              have ho : othTo ts key ts.length = ts := oth_none (fun j hj => tix_none HX.out hj)
              clear hown2 hown2w hb2 hb3 hb1
              by_cases h7 : ts.length < 8
              · have hNT := (newT_short (ts := ts) (key := key) (when := when) (by rw [ho]; exact h7)).trans (by rw [ho])
                have HN := Lib.hid hNT
                clear hNT ho
                have h88 : decide (8 < (ts.length : Int) + 1) = false := decide_eq_false (by omega)
                have h89 : decide (8 < ts.length + 1) = false := decide_eq_false (by omega)
                go_wp2_with (at_builtin; refine wpList_app rfl (.tmp 46) (.tmp 50) _ rfl w.heap.size 35 _ 2 24 Try.underlying25 info_Tomb rfl (by omega) T (some ⟨w3.heap.size, 0, none⟩) (ts.length) c 1 1 (w3.heap.size + 1) (cE 2 encTomb ts) (encTomb (key, when)) rfl rfl (Own.below hown3 ((Below.refl _ _).alloc (Nat.le_refl _) _)) (rd_elem _ _ _ _ (fun j hj => by rcases (by omega : j = 0 ∨ j = 1) with rfl | rfl <;> rfl)) (fun _ _ => encTomb_one _ _) (by simp only [maxLen]; omega) (by omega) (by first | omega | (simp; done) | (simp; omega)) ?_; intro T5 c5 w5 hown5 hg5; have hb5 := hb3w.trans (((Below.refl _ _).alloc hs3 _).trans (grown_below hg5 (fun b hb => (Own.lt hown3 hb).1) (by first | omega | (simp; done) | (simp; omega)))); have hown5' := OwnE.snoc (by omega) hown5; have hs5 := hb5.size)
                go_ret
                rw [HE.out, HN.out]
                exact ⟨T5, c5, by rw [List.length_append]; rfl, hown5', hb5⟩
              · have hNT := (newT_long (ts := ts) (key := key) (when := when) (by rw [ho]; omega)).trans (by rw [ho])
                have HN := Lib.hid hNT
                clear hNT ho
                have h88 : decide (8 < (ts.length : Int) + 1) = true := decide_eq_true (by omega)
                have h89 : decide (8 < ts.length + 1) = true := decide_eq_true (by omega)
                go_wp2_with (at_builtin; refine wpList_app rfl (.tmp 46) (.tmp 50) _ rfl w.heap.size 35 _ 2 24 Try.underlying25 info_Tomb rfl (by omega) T (some ⟨w3.heap.size, 0, none⟩) (ts.length) c 1 1 (w3.heap.size + 1) (cE 2 encTomb ts) (encTomb (key, when)) rfl rfl (Own.below hown3 ((Below.refl _ _).alloc (Nat.le_refl _) _)) (rd_elem _ _ _ _ (fun j hj => by rcases (by omega : j = 0 ∨ j = 1) with rfl | rfl <;> rfl)) (fun _ _ => encTomb_one _ _) (by simp only [maxLen]; omega) (by omega) (by first | omega | (simp; done) | (simp; omega)) ?_; intro T5 c5 w5 hown5 hg5; have hb5 := hb3w.trans (((Below.refl _ _).alloc hs3 _).trans (grown_below hg5 (fun b hb => (Own.lt hown3 hb).1) (by first | omega | (simp; done) | (simp; omega)))); have hown5' := OwnE.snoc (by omega) hown5; have hs5 := hb5.size)
                have hcall := withoutAtTomb_any T5 c5 w5.heap.size (ts ++ [(key, when)]) 0 w5 (OwnE.rd hown5') (Nat.le_refl _) (Own.shp hown5') (by simp) (by rw [List.length_append, List.length_singleton]; omega)
                rw [List.take_zero, List.nil_append, Nat.zero_add, ← HN.out, List.length_append, List.length_singleton] at hcall
                refine hcall.mono ?_
                rintro e w6 ⟨T6, c6, rfl, hown6, hb6⟩
                go_wp2_with fail
                go_ret
                rw [HE.out]
                exact ⟨T6, c6, rfl, Own.more hown6 hs5, hb5.trans (hb6.mono hs5)⟩
            · have hcall := tombOf_any T c w2.heap.size ts key w2 (OwnE.rd hown2) (Nat.le_refl _) hl
              rw [hix] at hcall
              have HX := Lib.hid hix
              clear hix
              refine hcall.mono ?_
              clear hcall
              rintro e w3 ⟨rfl, hb3⟩
              have hb3w := hb2w.trans (hb3.mono hs2)
              have hs3 := hb3w.size
              have ho := oth_some hv HX.out
              have hol1 : (othTo ts key ts.length).length < 8 := by have := oth_some_len hv HX.out; omega
              have hown3 := Own.below hown2 hb3
              have hcall := withoutAtTomb_any T c w3.heap.size ts k w3 (OwnE.rd hown3) (Nat.le_refl _) (Own.shp hown3) hk (by omega)
              rw [← ho] at hcall
              have HC := Lib.hid hcall
              clear hcall
              go_wp2_with fail
              refine HC.out.mono ?_
              rintro e w4 ⟨T4, c4, rfl, hown4, hb4⟩
              have hb4w := hb3w.trans (hb4.mono hs3)
              have hs4 := hb4w.size
              have hown4w := Own.more (base' := w.heap.size) hown4 hs3
              have hNT := newT_short (ts := ts) (key := key) (when := when) (by omega)
              have HN := Lib.hid hNT
              clear hNT ho HC hown2 hown2w hown3 hown4 hb1 hb2 hb3 hb4
              have h88 : decide (8 < ((othTo ts key ts.length).length : Int) + 1) = false := decide_eq_false (by omega)
              have h89 : decide (8 < (othTo ts key ts.length).length + 1) = false := decide_eq_false (by omega)
              go_wp2_with (at_builtin; refine wpList_app rfl (.tmp 46) (.tmp 50) _ rfl w.heap.size 35 _ 2 24 Try.underlying25 info_Tomb rfl (by omega) T4 (some ⟨w4.heap.size, 0, none⟩) ((othTo ts key ts.length).length) c4 1 1 (w4.heap.size + 1) (cE 2 encTomb (othTo ts key ts.length)) (encTomb (key, when)) rfl rfl (Own.below hown4w ((Below.refl _ _).alloc (Nat.le_refl _) _)) (rd_elem _ _ _ _ (fun j hj => by rcases (by omega : j = 0 ∨ j = 1) with rfl | rfl <;> rfl)) (fun _ _ => encTomb_one _ _) (by simp only [maxLen]; omega) (by omega) (by first | omega | (simp; done) | (simp; omega)) ?_; intro T5 c5 w5 hown5 hg5; have hb5 := hb4w.trans (((Below.refl _ _).alloc hs4 _).trans (grown_below hg5 (fun b hb => (Own.lt hown4w hb).1) (by first | omega | (simp; done) | (simp; omega)))); have hown5' := OwnE.snoc (by omega) hown5; have hs5 := hb5.size)
              go_ret
              rw [HE.out, HN.out]
              exact ⟨T5, c5, by rw [List.length_append]; rfl, hown5', hb5⟩
          ·
            have l1 : decide (0 < (ts.length : Int)) = false := decide_eq_false (by omega)
            have l2 : decide (0 < ts.length) = false := decide_eq_false (by omega)
            clear hcan hlate hp
            go_wp2_with (first | (go_at_call 41; refine (implWordValid_any _ _ hw).mono ?_; rintro e w' ⟨rfl, rfl⟩) | (go_at_call 42; refine (within_any _ _ _ _).mono ?_; rintro e w' ⟨rfl, rfl⟩) | (go_at_call 48; refine (copyOfTomb_any _ _ B ts w1 hr1 (by omega)).mono ?_; rintro e w2 ⟨T, c, rfl, hown2, hb2⟩))
            have hb2w := hb1.trans (hb2.mono hs1)
            have hs2 := hb2w.size
            have hown2w := Own.more (base' := w.heap.size) hown2 hs1
            clear l1 l2
            rcases tix_two (ts := ts) (key := key) with hix | ⟨k, hk, hix⟩
            · have hcall := tombOf_any T c w2.heap.size ts key w2 (OwnE.rd hown2) (Nat.le_refl _) hl
              rw [hix] at hcall
              have HX := Lib.hid hix
              clear hix
              refine hcall.mono ?_
              clear hcall
              rintro e w3 ⟨rfl, hb3⟩
              have hb3w := hb2w.trans (hb3.mono hs2)
              have hs3 := hb3w.size
              have hown3 := Own.below hown2w hb3
              have ho : othTo ts key ts.length = ts := oth_none (fun j hj => tix_none HX.out hj)
              clear hown2 hown2w hb2 hb3 hb1
              by_cases h7 : ts.length < 8
              · have hNT := (newT_short (ts := ts) (key := key) (when := when) (by rw [ho]; exact h7)).trans (by rw [ho])
                have HN := Lib.hid hNT
                clear hNT ho
                have h88 : decide (8 < (ts.length : Int) + 1) = false := decide_eq_false (by omega)
                have h89 : decide (8 < ts.length + 1) = false := decide_eq_false (by omega)
                go_wp2_with (at_builtin; refine wpList_app rfl (.tmp 46) (.tmp 50) _ rfl w.heap.size 35 _ 2 24 Try.underlying25 info_Tomb rfl (by omega) T (some ⟨w3.heap.size, 0, none⟩) (ts.length) c 1 1 (w3.heap.size + 1) (cE 2 encTomb ts) (encTomb (key, when)) rfl rfl (Own.below hown3 ((Below.refl _ _).alloc (Nat.le_refl _) _)) (rd_elem _ _ _ _ (fun j hj => by rcases (by omega : j = 0 ∨ j = 1) with rfl | rfl <;> rfl)) (fun _ _ => encTomb_one _ _) (by simp only [maxLen]; omega) (by omega) (by first | omega | (simp; done) | (simp; omega)) ?_; intro T5 c5 w5 hown5 hg5; have hb5 := hb3w.trans (((Below.refl _ _).alloc hs3 _).trans (grown_below hg5 (fun b hb => (Own.lt hown3 hb).1) (by first | omega | (simp; done) | (simp; omega)))); have hown5' := OwnE.snoc (by omega) hown5; have hs5 := hb5.size)
                go_ret
                rw [HE.out, HN.out]
                exact ⟨T5, c5, by rw [List.length_append]; rfl, hown5', hb5⟩
              · have hNT := (newT_long (ts := ts) (key := key) (when := when) (by rw [ho]; omega)).trans (by rw [ho])
                have HN := Lib.hid hNT
                clear hNT ho
                have h88 : decide (8 < (ts.length : Int) + 1) = true := decide_eq_true (by omega)
                have h89 : decide (8 < ts.length + 1) = true := decide_eq_true (by omega)
                go_wp2_with (at_builtin; refine wpList_app rfl (.tmp 46) (.tmp 50) _ rfl w.heap.size 35 _ 2 24 Try.underlying25 info_Tomb rfl (by omega) T (some ⟨w3.heap.size, 0, none⟩) (ts.length) c 1 1 (w3.heap.size + 1) (cE 2 encTomb ts) (encTomb (key, when)) rfl rfl (Own.below hown3 ((Below.refl _ _).alloc (Nat.le_refl _) _)) (rd_elem _ _ _ _ (fun j hj => by rcases (by omega : j = 0 ∨ j = 1) with rfl | rfl <;> rfl)) (fun _ _ => encTomb_one _ _) (by simp only [maxLen]; omega) (by omega) (by first | omega | (simp; done) | (simp; omega)) ?_; intro T5 c5 w5 hown5 hg5; have hb5 := hb3w.trans (((Below.refl _ _).alloc hs3 _).trans (grown_below hg5 (fun b hb => (Own.lt hown3 hb).1) (by first | omega | (simp; done) | (simp; omega)))); have hown5' := OwnE.snoc (by omega) hown5; have hs5 := hb5.size)
                have hcall := withoutAtTomb_any T5 c5 w5.heap.size (ts ++ [(key, when)]) 0 w5 (OwnE.rd hown5') (Nat.le_refl _) (Own.shp hown5') (by simp) (by rw [List.length_append, List.length_singleton]; omega)
                rw [List.take_zero, List.nil_append, Nat.zero_add, ← HN.out, List.length_append, List.length_singleton] at hcall
                refine hcall.mono ?_
                rintro e w6 ⟨T6, c6, rfl, hown6, hb6⟩
                go_wp2_with fail
                go_ret
                rw [HE.out]
                exact ⟨T6, c6, rfl, Own.more hown6 hs5, hb5.trans (hb6.mono hs5)⟩
            · have hcall := tombOf_any T c w2.heap.size ts key w2 (OwnE.rd hown2) (Nat.le_refl _) hl
              rw [hix] at hcall
              have HX := Lib.hid hix
              clear hix
              refine hcall.mono ?_
              clear hcall
              rintro e w3 ⟨rfl, hb3⟩
              have hb3w := hb2w.trans (hb3.mono hs2)
              have hs3 := hb3w.size
              have ho := oth_some hv HX.out
              have hol1 : (othTo ts key ts.length).length < 8 := by have := oth_some_len hv HX.out; omega
              have hown3 := Own.below hown2 hb3
              have hcall := withoutAtTomb_any T c w3.heap.size ts k w3 (OwnE.rd hown3) (Nat.le_refl _) (Own.shp hown3) hk (by omega)
              rw [← ho] at hcall
              have HC := Lib.hid hcall
              clear hcall
              go_wp2_with fail
              refine HC.out.mono ?_
              rintro e w4 ⟨T4, c4, rfl, hown4, hb4⟩
              have hb4w := hb3w.trans (hb4.mono hs3)
              have hs4 := hb4w.size
              have hown4w := Own.more (base' := w.heap.size) hown4 hs3
              have hNT := newT_short (ts := ts) (key := key) (when := when) (by omega)
              have HN := Lib.hid hNT
              clear hNT ho HC hown2 hown2w hown3 hown4 hb1 hb2 hb3 hb4
              have h88 : decide (8 < ((othTo ts key ts.length).length : Int) + 1) = false := decide_eq_false (by omega)
              have h89 : decide (8 < (othTo ts key ts.length).length + 1) = false := decide_eq_false (by omega)
              go_wp2_with (at_builtin; refine wpList_app rfl (.tmp 46) (.tmp 50) _ rfl w.heap.size 35 _ 2 24 Try.underlying25 info_Tomb rfl (by omega) T4 (some ⟨w4.heap.size, 0, none⟩) ((othTo ts key ts.length).length) c4 1 1 (w4.heap.size + 1) (cE 2 encTomb (othTo ts key ts.length)) (encTomb (key, when)) rfl rfl (Own.below hown4w ((Below.refl _ _).alloc (Nat.le_refl _) _)) (rd_elem _ _ _ _ (fun j hj => by rcases (by omega : j = 0 ∨ j = 1) with rfl | rfl <;> rfl)) (fun _ _ => encTomb_one _ _) (by simp only [maxLen]; omega) (by omega) (by first | omega | (simp; done) | (simp; omega)) ?_; intro T5 c5 w5 hown5 hg5; have hb5 := hb4w.trans (((Below.refl _ _).alloc hs4 _).trans (grown_below hg5 (fun b hb => (Own.lt hown4w hb).1) (by first | omega | (simp; done) | (simp; omega)))); have hown5' := OwnE.snoc (by omega) hown5; have hs5 := hb5.size)
              go_ret
              rw [HE.out, HN.out]
              exact ⟨T5, c5, by rw [List.length_append]; rfl, hown5', hb5⟩
      · have hinf : inB when 0 1000000000 = false := by simpa using hin
        have HE := Lib.hid (buryOf_no (canB_no (ts := ts) (key := key) (when := when) (fun q => hin q.2.2.1)))
        clear hin
        go_wp2_with (first | (go_at_call 41; refine (implWordValid_any _ _ hw).mono ?_; rintro e w' ⟨rfl, rfl⟩) | (go_at_call 42; refine (within_any _ _ _ _).mono ?_; rintro e w' ⟨rfl, rfl⟩))
        go_ret
        rw [HE.out]
        exact ⟨none, 0, rfl, Own.nil _ _ _ _ _, hb1⟩
    · have hwf : wordB key = false := by simpa using hwd
      have HE := Lib.hid (buryOf_no (canB_no (ts := ts) (key := key) (when := when) (fun q => hwd q.2.1)))
      clear hwd
      go_wp2_with (go_at_call 41; refine (implWordValid_any _ _ hw).mono ?_; rintro e w' ⟨rfl, rfl⟩)
      go_ret
      rw [HE.out]
      exact ⟨none, 0, rfl, Own.nil _ _ _ _ _, hb1⟩
  · have hv' : tmB ts = false := by simpa using hv
    have HE := Lib.hid (buryOf_no (canB_no (ts := ts) (key := key) (when := when) (fun q => hv q.1)))
    clear hv
    go_enter Try.func22, Try.ntmps22
    go_wp2_with fail
    refine (implTombsValid_any _ _ B ts w h hB hl hcap hsz).mono ?_
    rintro e w1 ⟨rfl, hb1⟩
    go_wp2_with fail
    go_ret
    rw [HE.out]
    exact ⟨none, 0, rfl, Own.nil _ _ _ _ _, hb1⟩
end Go.Proofs.Ytggdfmkenmlbjaa
