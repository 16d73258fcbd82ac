import Derived.Test.YtnplpllhochlfaaTombA
import Derived.Test.YtnplpllhochlfaaTombPlain3
import Derived.Test.YtnplpllhochlfaaSub
namespace Go.Proofs.Ytnplpllhochlfaa
open Go.RowKit
set_option maxRecDepth 100000 in
set_option maxHeartbeats 3200000 in
theorem specBuryKey_yes (A : Option Addr) (cap B : Nat) (ts : List ElTomb) (key : ByteArray) (when : Int) (w : World) (h : RdE 2 encTomb w B A ts) (hB : B ≤ w.heap.size) (hl : ts.length ≤ 140737488351232) (hsz : ∀ k, k < ts.length → (gt ts k).1.size ≤ maxLen) (hw : key.size ≤ maxLen) (hv : tmB ts = true) :
    Calls Try.prog 43 #[.slice A ts.length cap, .string key, .int .i64 when] w fun e w' => ∃ T' cap', e = .returned (.slice T' (buryOf ts key when).length cap') ∧ SubE 2 encTomb 54 w' w.heap.size T' cap' (buryOf ts key when) ∧ Below w.heap.size w w' := by
  have hemp : OwnE 2 encTomb 54 (w.alloc (.cells #[] 54)) w.heap.size (some ⟨w.heap.size, 0, none⟩) 0 ([] : List ElTomb) := Own.lit w 54 2 0 #[] _ (Nat.zero_le _) rfl
  have hemb : Below w.heap.size w (w.alloc (.cells #[] 54)) := (Below.refl _ _).alloc (Nat.le_refl _) _
  have h8 := tm_len hv
  have HSZ := Lib.hid hsz
  clear hsz
  go_enter Try.func43, Try.ntmps43
  go_wp2_with fail
  go_loopw [7, 8] (fun v i wr => ∃ (k : Nat) (T : Option Addr) (c : Nat) (cur : List ElTomb), k ≤ ts.length ∧ i = .int .i64 k ∧ v = .slice T cur.length c ∧ Hid (cur = othTo ts key k) ∧ cur.length ≤ k ∧ OwnE 2 encTomb 54 wr w.heap.size T c cur ∧ Below w.heap.size w wr) (fun _ i _ => ts.length - (intOf i).toNat)
  case atStart => exact ⟨0, _, 0, [], Nat.zero_le _, rfl, rfl, Lib.hid (othTo_zero _ _).symm, Nat.le_refl _, hemp, hemb⟩
  case round =>
    clear hemp hemb
    obtain ⟨k, T, c, cur, hk, rfl, rfl, hcur, hck, hown, hbl⟩ := hrel
    have hsz := hbl.size
    by_cases hlt : k < ts.length
    · have k1 : decide ((k : Int) < (ts.length : Int)) = true := by simp [hlt]
      have k2 : decide (k < ts.length) = true := by simp [hlt]
      go_wp2_with fail
      refine (specTombsValid_any _ _ B ts wr (h.below (hbl.mono hB)) (Nat.le_trans hB hsz) hl HSZ.out).mono ?_
      rintro e w1 ⟨rfl, hb1⟩
      have hbl1 := hbl.trans (hb1.mono hsz)
      have hs1 := hbl1.size
      have hown1 := Own.below hown hb1
      obtain ⟨b, off, rfl, hb, hc⟩ := (h.below (hbl1.mono hB)).at_ (by omega)
      have c0 : w1.cell? ⟨b, off + k * 2, none⟩ = some (Value.string (gt ts k).1) := hc k 0 (by omega) (by omega)
      have c1 : w1.cell? ⟨b, off + k * 2 + 1, none⟩ = some (Value.int .i64 (gt ts k).2) := hc k 1 (by omega) (by omega)
      clear hc hown hbl hb1
      cases hq : seq (gt ts k).1 key
      · have q0 : ((gt ts k).1.toList == key.toList) = false := by rw [seq_eql]; exact hq
        have HN := Lib.hid (othTo_not hlt hq)
        clear hq
        go_wp2_with (at_builtin; refine wpList_app rfl (.tmp 27) (.tmp 32) _ rfl w.heap.size 54 _ 2 24 Try.underlying24 info_Tomb rfl (by omega) T (some ⟨w1.heap.size, 0, none⟩) cur.length c 1 1 (w1.heap.size + 1) (cE 2 encTomb cur) (encTomb (gt ts k)) rfl rfl (Own.below hown1 ((Below.refl _ _).alloc (Nat.le_refl _) _)) (rd_elem _ _ _ _ (fun j hj => by rcases (by omega : j = 0 ∨ j = 1) with rfl | rfl <;> rfl)) (fun _ _ => encTomb_one _ _) (by simp only [maxLen]; omega) (by omega) (by first | omega | (simp; done) | (simp; omega)) ?_; intro T1 cap1 w2 hown2 hg2)
        go_roundw
        case rel => exact ⟨k + 1, T1, cap1, cur ++ [gt ts k], by omega, by go_num, by rw [List.length_append]; rfl, Lib.hid (by rw [HN.out, ← hcur.out]), by rw [List.length_append]; simp; omega, OwnE.snoc (by omega) hown2, hbl1.trans (((Below.refl _ _).alloc hs1 _).trans (grown_below hg2 (fun b hb => (Own.lt hown1 hb).1) (by first | omega | (simp; done) | (simp; omega))))⟩
        case measure => simp [intOf]; omega
      · have q0 : ((gt ts k).1.toList == key.toList) = true := by rw [seq_eql]; exact hq
        have HN := Lib.hid (othTo_is hlt hq)
        clear hq
        go_wp2_with fail
        go_roundw
        case rel => exact ⟨k + 1, T, c, cur, by omega, by go_num, rfl, Lib.hid (by rw [HN.out, ← hcur.out]), by omega, hown1, hbl1⟩
        case measure => simp [intOf]; omega
    · obtain rfl : k = ts.length := by omega
      have hr0 := h.below (hbl.mono hB)
      by_cases h7 : cur.length < 8
      · have h88 : decide (8 < (cur.length : Int) + 1) = false := decide_eq_false (by omega)
        have h89 : decide (8 < cur.length + 1) = false := decide_eq_false (by omega)
        have hNT : newT ts key when = cur ++ [(key, when)] := by rw [newT_short (by rw [← hcur.out]; exact h7), ← hcur.out]
        have hNL := Lib.hid (show (newT ts key when).length = cur.length + 1 by rw [hNT, List.length_append]; rfl)
        have HNT := Lib.hid hNT
        clear hNT
        go_wp2_with (at_builtin; refine wpList_app rfl (.tmp 34) (.tmp 38) _ rfl w.heap.size 54 _ 2 24 Try.underlying24 info_Tomb rfl (by omega) T (some ⟨wr.heap.size, 0, none⟩) cur.length c 1 1 (wr.heap.size + 1) (cE 2 encTomb cur) (encTomb (key, when)) rfl rfl (Own.below hown ((Below.refl _ _).alloc (Nat.le_refl _) _)) (rd_elem _ _ _ _ (fun j hj => by rcases (by omega : j = 0 ∨ j = 1) with rfl | rfl <;> rfl)) (fun _ _ => encTomb_one _ _) (by simp only [maxLen]; omega) (by omega) (by first | omega | (simp; done) | (simp; omega)) ?_; intro T5 c5 w5 hown5 hg5; have hb5 := hbl.trans (((Below.refl _ _).alloc hsz _).trans (grown_below hg5 (fun b hb => (Own.lt hown hb).1) (by first | omega | (simp; done) | (simp; omega)))); have hown5' := OwnE.snoc (by omega) hown5; have hs5 := hb5.size; have hr5 := h.below (hb5.mono hB))
        have hsub : SubE 2 encTomb 54 w5 w.heap.size T5 c5 (newT ts key when) := by rw [HNT.out]; exact OwnE.sub hown5'
        clear hown5 hown5' hg5 hown hbl hr0
        refine (specTombsValid_any _ _ B ts w5 hr5 (Nat.le_trans hB hs5) hl HSZ.out).mono ?_
        rintro e w6 ⟨rfl, hb6⟩
        have hb6w := hb5.trans (hb6.mono hs5)
        have hs6 := hb6w.size
        have hsub6 := Sub.below hsub hb6
        have hcall := specTombsValid_any T5 c5 w6.heap.size (newT ts key when) w6 (SubE.rd hsub6) (Nat.le_refl _) (by have := hNL.out; omega) (sz_oth HSZ.out hw newT_sub)
        rw [hNL.out] at hcall
        have HC := Lib.hid hcall
        clear hcall
        go_wp2_with fail
        refine HC.out.mono ?_
        rintro e w7 ⟨rfl, hb7⟩
        have hb7w := hb6w.trans (hb7.mono hs6)
        have hs7 := hb7w.size
        have hsub7 := Sub.below hsub6 hb7
        by_cases hvn : tmB (newT ts key when) = true
        · by_cases hp : 0 < ts.length
          · by_cases hlate : when < (gt ts (ts.length - 1)).2
            · have HE := Lib.hid (buryOf_no (canB_late (key := key) hp hlate))
              have hdl : decide (when < (gt ts (ts.length - 1)).2) = true := decide_eq_true hlate
              obtain ⟨b, off, rfl, hb, hc⟩ := (h.below (hb7w.mono hB)).at_ (by omega)
              have c1 : w7.cell? ⟨b, off + (ts.length - 1) * 2 + 1, none⟩ = some (Value.int .i64 (gt ts (ts.length - 1)).2) := hc (ts.length - 1) 1 (by omega) (by omega)
              clear hc
              have l1 : decide (0 < (ts.length : Int)) = true := decide_eq_true (by omega)
              have l2 : decide (0 < ts.length) = true := decide_eq_true (by omega)
              have hk1 : ((ts.length : Int) - 1).toNat = ts.length - 1 := by omega
              have hk2 : IntKind.i64.wrap ((ts.length : Int) - 1) = (ts.length : Int) - 1 := IntWalk.i64_in _ (by omega)
              have hk3 : (1 : Int) ≤ (ts.length : Int) := by omega
              have hk4 : (0 : Int) ≤ (ts.length : Int) - 1 := by omega
              have hk5 : (ts.length : Int) - 1 < (ts.length : Int) := by omega
              clear hlate hp
              go_wp2_with fail
              go_ret
              rw [HE.out]
              exact ⟨_, _, rfl, OwnE.sub (Own.more (Own.lit w7 54 2 0 #[] (cE 2 encTomb ([] : List ElTomb)) (Nat.zero_le _) rfl) hs7), hb7w.alloc hs7 _⟩
            · have HE := Lib.hid (buryOf_yes (canB_of hv hvn (.inr (by omega))))
              have hdl : decide (when < (gt ts (ts.length - 1)).2) = false := decide_eq_false hlate
              obtain ⟨b, off, rfl, hb, hc⟩ := (h.below (hb7w.mono hB)).at_ (by omega)
              have c1 : w7.cell? ⟨b, off + (ts.length - 1) * 2 + 1, none⟩ = some (Value.int .i64 (gt ts (ts.length - 1)).2) := hc (ts.length - 1) 1 (by omega) (by omega)
              clear hc
              have l1 : decide (0 < (ts.length : Int)) = true := decide_eq_true (by omega)
              have l2 : decide (0 < ts.length) = true := decide_eq_true (by omega)
              have hk1 : ((ts.length : Int) - 1).toNat = ts.length - 1 := by omega
              have hk2 : IntKind.i64.wrap ((ts.length : Int) - 1) = (ts.length : Int) - 1 := IntWalk.i64_in _ (by omega)
              have hk3 : (1 : Int) ≤ (ts.length : Int) := by omega
              have hk4 : (0 : Int) ≤ (ts.length : Int) - 1 := by omega
              have hk5 : (ts.length : Int) - 1 < (ts.length : Int) := by omega
              clear hlate hp
              go_wp2_with fail
              go_ret
              rw [HE.out]
              exact ⟨_, _, by rw [hNL.out]; rfl, hsub7, hb7w⟩
          · have HE := Lib.hid (buryOf_yes (canB_of hv hvn (.inl (by omega))))
            have l1 : decide (0 < (ts.length : Int)) = false := decide_eq_false (by omega)
            have l2 : decide (0 < ts.length) = false := decide_eq_false (by omega)
            clear hp
            go_wp2_with fail
            go_ret
            rw [HE.out]
            exact ⟨_, _, by rw [hNL.out]; rfl, hsub7, hb7w⟩
        · have hvf : tmB (newT ts key when) = false := by simpa using hvn
          have HE := Lib.hid (buryOf_no (canB_bad hvf))
          clear hvn
          go_wp2_with fail
          go_ret
          rw [HE.out]
          exact ⟨_, _, rfl, OwnE.sub (Own.more (Own.lit w7 54 2 0 #[] (cE 2 encTomb ([] : List ElTomb)) (Nat.zero_le _) rfl) hs7), hb7w.alloc hs7 _⟩
      · have h88 : decide (8 < (cur.length : Int) + 1) = true := decide_eq_true (by omega)
        have h89 : decide (8 < cur.length + 1) = true := decide_eq_true (by omega)
        have hNT : newT ts key when = (cur ++ [(key, when)]).drop 1 := by rw [newT_long (by rw [← hcur.out]; omega), ← hcur.out]
        have hNL := Lib.hid (show (newT ts key when).length = cur.length by rw [hNT, List.length_drop, List.length_append]; rfl)
        have HNT := Lib.hid hNT
        clear hNT
        go_wp2_with (at_builtin; refine wpList_app rfl (.tmp 34) (.tmp 38) _ rfl w.heap.size 54 _ 2 24 Try.underlying24 info_Tomb rfl (by omega) T (some ⟨wr.heap.size, 0, none⟩) cur.length c 1 1 (wr.heap.size + 1) (cE 2 encTomb cur) (encTomb (key, when)) rfl rfl (Own.below hown ((Below.refl _ _).alloc (Nat.le_refl _) _)) (rd_elem _ _ _ _ (fun j hj => by rcases (by omega : j = 0 ∨ j = 1) with rfl | rfl <;> rfl)) (fun _ _ => encTomb_one _ _) (by simp only [maxLen]; omega) (by omega) (by first | omega | (simp; done) | (simp; omega)) ?_; intro T5 c5 w5 hown5 hg5; have hb5 := hbl.trans (((Below.refl _ _).alloc hsz _).trans (grown_below hg5 (fun b hb => (Own.lt hown hb).1) (by first | omega | (simp; done) | (simp; omega)))); have hown5' := OwnE.snoc (by omega) hown5; have hs5 := hb5.size; have hr5 := h.below (hb5.mono hB); have sl5 : ∀ W, (Instr.slice 24 (.slice T5 (cur.length + 1) c5) (some (.int .i64 1)) none none).run Try.prog W = .ok (.slice (tlA T5 c5 1 2) cur.length (c5 - 1)) W := fun W => run_from (k := 1) Try.underlying24 info_Tomb T5 (cur.length + 1) c5 (by omega) W)
        have hsub : SubE 2 encTomb 54 w5 w.heap.size (tlA T5 c5 1 2) (c5 - 1) (newT ts key when) := by rw [HNT.out]; exact SubE.drop (by omega) (OwnE.sub hown5') (by simp)
        clear hown5 hown5' hg5 hown hbl hr0 sl5
        refine (specTombsValid_any _ _ B ts w5 hr5 (Nat.le_trans hB hs5) hl HSZ.out).mono ?_
        rintro e w6 ⟨rfl, hb6⟩
        have hb6w := hb5.trans (hb6.mono hs5)
        have hs6 := hb6w.size
        have hsub6 := Sub.below hsub hb6
        have hcall := specTombsValid_any (tlA T5 c5 1 2) (c5 - 1) w6.heap.size (newT ts key when) w6 (SubE.rd hsub6) (Nat.le_refl _) (by have := hNL.out; omega) (sz_oth HSZ.out hw newT_sub)
        rw [hNL.out] at hcall
        have HC := Lib.hid hcall
        clear hcall
        go_wp2_with fail
        refine HC.out.mono ?_
        rintro e w7 ⟨rfl, hb7⟩
        have hb7w := hb6w.trans (hb7.mono hs6)
        have hs7 := hb7w.size
        have hsub7 := Sub.below hsub6 hb7
        by_cases hvn : tmB (newT ts key when) = true
        · by_cases hp : 0 < ts.length
          · by_cases hlate : when < (gt ts (ts.length - 1)).2
            · have HE := Lib.hid (buryOf_no (canB_late (key := key) hp hlate))
              have hdl : decide (when < (gt ts (ts.length - 1)).2) = true := decide_eq_true hlate
              obtain ⟨b, off, rfl, hb, hc⟩ := (h.below (hb7w.mono hB)).at_ (by omega)
              have c1 : w7.cell? ⟨b, off + (ts.length - 1) * 2 + 1, none⟩ = some (Value.int .i64 (gt ts (ts.length - 1)).2) := hc (ts.length - 1) 1 (by omega) (by omega)
              clear hc
              have l1 : decide (0 < (ts.length : Int)) = true := decide_eq_true (by omega)
              have l2 : decide (0 < ts.length) = true := decide_eq_true (by omega)
              have hk1 : ((ts.length : Int) - 1).toNat = ts.length - 1 := by omega
              have hk2 : IntKind.i64.wrap ((ts.length : Int) - 1) = (ts.length : Int) - 1 := IntWalk.i64_in _ (by omega)
              have hk3 : (1 : Int) ≤ (ts.length : Int) := by omega
              have hk4 : (0 : Int) ≤ (ts.length : Int) - 1 := by omega
              have hk5 : (ts.length : Int) - 1 < (ts.length : Int) := by omega
              clear hlate hp
              go_wp2_with fail
              go_ret
              rw [HE.out]
              exact ⟨_, _, rfl, OwnE.sub (Own.more (Own.lit w7 54 2 0 #[] (cE 2 encTomb ([] : List ElTomb)) (Nat.zero_le _) rfl) hs7), hb7w.alloc hs7 _⟩
            · have HE := Lib.hid (buryOf_yes (canB_of hv hvn (.inr (by omega))))
              have hdl : decide (when < (gt ts (ts.length - 1)).2) = false := decide_eq_false hlate
              obtain ⟨b, off, rfl, hb, hc⟩ := (h.below (hb7w.mono hB)).at_ (by omega)
              have c1 : w7.cell? ⟨b, off + (ts.length - 1) * 2 + 1, none⟩ = some (Value.int .i64 (gt ts (ts.length - 1)).2) := hc (ts.length - 1) 1 (by omega) (by omega)
              clear hc
              have l1 : decide (0 < (ts.length : Int)) = true := decide_eq_true (by omega)
              have l2 : decide (0 < ts.length) = true := decide_eq_true (by omega)
              have hk1 : ((ts.length : Int) - 1).toNat = ts.length - 1 := by omega
              have hk2 : IntKind.i64.wrap ((ts.length : Int) - 1) = (ts.length : Int) - 1 := IntWalk.i64_in _ (by omega)
              have hk3 : (1 : Int) ≤ (ts.length : Int) := by omega
              have hk4 : (0 : Int) ≤ (ts.length : Int) - 1 := by omega
              have hk5 : (ts.length : Int) - 1 < (ts.length : Int) := by omega
              clear hlate hp
              go_wp2_with fail
              go_ret
              rw [HE.out]
              exact ⟨_, _, by rw [hNL.out]; rfl, hsub7, hb7w⟩
          · have HE := Lib.hid (buryOf_yes (canB_of hv hvn (.inl (by omega))))
            have l1 : decide (0 < (ts.length : Int)) = false := decide_eq_false (by omega)
            have l2 : decide (0 < ts.length) = false := decide_eq_false (by omega)
            clear hp
            go_wp2_with fail
            go_ret
            rw [HE.out]
            exact ⟨_, _, by rw [hNL.out]; rfl, hsub7, hb7w⟩
        · have hvf : tmB (newT ts key when) = false := by simpa using hvn
          have HE := Lib.hid (buryOf_no (canB_bad hvf))
          clear hvn
          go_wp2_with fail
          go_ret
          rw [HE.out]
          exact ⟨_, _, rfl, OwnE.sub (Own.more (Own.lit w7 54 2 0 #[] (cE 2 encTomb ([] : List ElTomb)) (Nat.zero_le _) rfl) hs7), hb7w.alloc hs7 _⟩
set_option maxRecDepth 100000 in
set_option maxHeartbeats 1600000 in
theorem specBuryKey_no (A : Option Addr) (cap B : Nat) (ts : List ElTomb) (key : ByteArray) (when : Int) (w : World) (h : RdE 2 encTomb w B A ts) (hB : B ≤ w.heap.size) (hl : ts.length ≤ 140737488351232) (hsz : ∀ k, k < ts.length → (gt ts k).1.size ≤ maxLen) (hw : key.size ≤ maxLen) (hv : tmB ts = false) :
    Calls Try.prog 43 #[.slice A ts.length cap, .string key, .int .i64 when] w fun e w' => ∃ T' cap', e = .returned (.slice T' (buryOf ts key when).length cap') ∧ SubE 2 encTomb 54 w' w.heap.size T' cap' (buryOf ts key when) ∧ Below w.heap.size w w' := by
  have hemp : OwnE 2 encTomb 54 (w.alloc (.cells #[] 54)) w.heap.size (some ⟨w.heap.size, 0, none⟩) 0 ([] : List ElTomb) := Own.lit w 54 2 0 #[] _ (Nat.zero_le _) rfl
  have hemb : Below w.heap.size w (w.alloc (.cells #[] 54)) := (Below.refl _ _).alloc (Nat.le_refl _) _
  have HE := Lib.hid (buryOf_no (canB_no (ts := ts) (key := key) (when := when) (fun q => by rw [hv] at q; cases q.1)))
  have hpos : 0 < ts.length := by
    rcases Nat.eq_zero_or_pos ts.length with h0 | h0
    · rw [List.eq_nil_of_length_eq_zero h0] at hv; cases hv
    · exact h0
  have k1 : decide ((0 : Int) < (ts.length : Int)) = true := decide_eq_true (by omega)
  go_enter Try.func43, Try.ntmps43
  go_wp2_with fail
  refine wp_loop_rounds 1 ?_
  rw [rounds_succ]
  go_wp2_with fail
  refine (specTombsValid_any _ _ B ts _ (h.alloc hB _) (by simp; omega) hl hsz).mono ?_
  rintro e w1 ⟨rfl, hb1⟩
  have hbl1 := hemb.trans (hb1.mono (by simp))
  have hs1 := hbl1.size
  have hown1 := Own.below hemp hb1
  go_wp2_with (at_builtin; refine wpList_app rfl (.tmp 34) (.tmp 38) _ rfl w.heap.size 54 _ 2 24 Try.underlying24 info_Tomb rfl (by omega) (some ⟨w.heap.size, 0, none⟩) (some ⟨w1.heap.size, 0, none⟩) 0 0 1 1 (w1.heap.size + 1) (cE 2 encTomb ([] : List ElTomb)) (encTomb (key, when)) rfl rfl (Own.below hown1 ((Below.refl _ _).alloc (Nat.le_refl _) _)) (rd_elem _ _ _ _ (fun j hj => by rcases (by omega : j = 0 ∨ j = 1) with rfl | rfl <;> rfl)) (fun _ _ => encTomb_one _ _) (by simp only [maxLen]; omega) (by omega) (by first | omega | (simp; done) | (simp; omega)) ?_; intro T5 c5 w5 hown5 hg5; have hb5 := hbl1.trans (((Below.refl _ _).alloc hs1 _).trans (grown_below hg5 (fun b hb => (Own.lt hown1 hb).1) (by first | omega | (simp; done) | (simp; omega)))); have hs5 := hb5.size)
  refine (specTombsValid_any _ _ B ts w5 (h.below (hb5.mono hB)) (Nat.le_trans hB hs5) hl hsz).mono ?_
  rintro e w6 ⟨rfl, hb6⟩
  have hb6w := hb5.trans (hb6.mono hs5)
  have hs6 := hb6w.size
  go_wp2_with fail
  go_ret
  rw [HE.out]
  exact ⟨_, _, rfl, OwnE.sub (Own.more (Own.lit w6 54 2 0 #[] (cE 2 encTomb ([] : List ElTomb)) (Nat.zero_le _) rfl) hs6), hb6w.alloc hs6 _⟩
theorem specBuryKey_any (A : Option Addr) (cap B : Nat) (ts : List ElTomb) (key : ByteArray) (when : Int) (w : World) (h : RdE 2 encTomb w B A ts) (hB : B ≤ w.heap.size) (hl : ts.length ≤ 140737488351232) (hsz : ∀ k, k < ts.length → (gt ts k).1.size ≤ maxLen) (hw : key.size ≤ maxLen) :
    Calls Try.prog 43 #[.slice A ts.length cap, .string key, .int .i64 when] w fun e w' => ∃ T' cap', e = .returned (.slice T' (buryOf ts key when).length cap') ∧ SubE 2 encTomb 54 w' w.heap.size T' cap' (buryOf ts key when) ∧ Below w.heap.size w w' := by
  cases hv : tmB ts
  · exact specBuryKey_no A cap B ts key when w h hB hl hsz hw hv
  · exact specBuryKey_yes A cap B ts key when w h hB hl hsz hw hv
end Go.Proofs.Ytnplpllhochlfaa
