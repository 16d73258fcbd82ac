/- LiveItems, walked. -/
import Derived.Test.YtnplpllhochlfaaLivePlain
import Derived.Test.YtnplpllhochlfaaFeedB
import Derived.Test.YtnplpllhochlfaaTombB
namespace Go.Proofs.Ytnplpllhochlfaa
open Go.RowKit
set_option maxHeartbeats 1600000 in
theorem implLiveItems_any (A : Option Addr) (cap : Nat) (T : Option Addr) (capT B : Nat) (fs : List ElItem) (ts : List ElTomb) (now : Int) (w : World) (h : RdE 4 encItem w B A fs) (ht : RdE 2 encTomb w B T ts) (hB : B ≤ w.heap.size) (hl : fs.length ≤ 140737488351232) (hlt : ts.length ≤ 140737488351232) (hcap : fs.length ≤ cap) (hcapT : ts.length ≤ capT) (hfz : ∀ k, k < fs.length → (gt fs k).1.size ≤ maxLen ∧ (gt fs k).2.1.size ≤ maxLen ∧ (gt fs k).2.2.1.size ≤ maxLen) (htz : ∀ k, k < ts.length → (gt ts k).1.size ≤ maxLen) :
    Calls Try.prog 6 #[.slice A fs.length cap, .slice T ts.length capT, .int .i64 now] w fun e w' => ∃ R cR, e = .returned (.slice R (liveOf fs ts now).length cR) ∧ OwnE 4 encItem 34 w' w.heap.size R cR (liveOf fs ts now) ∧ Below w.heap.size w w' := by
  have HF := Lib.hid hfz
  have HT := Lib.hid htz
  clear hfz htz
  by_cases hv : fdB fs = true
  · have h8 := fd_len hv
    by_cases hv2 : tmB ts = true
    · have HE := Lib.hid (liveOf_yes (now := now) hv hv2)
      go_enter Try.func6, Try.ntmps6
      go_wp2_with fail
      refine (implFeedValid_any A cap B fs w h hB hl hcap HF.out).mono ?_
      rintro e w1 ⟨rfl, hb1⟩
      have hs1 := hb1.size
      go_wp2_with fail
      refine (implTombsValid_any T capT B ts w1 (ht.below (hb1.mono hB)) (Nat.le_trans hB hs1) hlt hcapT HT.out).mono ?_
      rintro e w2 ⟨rfl, hb2⟩
      have hb2w := hb1.trans (hb2.mono hs1)
      have hs2 := hb2w.size
      go_wp2_with fail
      go_loopw [7, 20] (fun v i wr => ∃ (k : Nat) (R : Option Addr) (c : Nat) (cur : List ElItem), k ≤ fs.length ∧ i = .int .i64 k ∧ v = .slice R cur.length c ∧ Hid (cur = liveTo fs ts now k) ∧ cur.length ≤ k ∧ OwnE 4 encItem 34 wr w.heap.size R c cur ∧ Below w.heap.size w wr) (fun _ i _ => fs.length - (intOf i).toNat)
      case atStart => exact ⟨0, none, 0, [], Nat.zero_le _, rfl, rfl, Lib.hid (liveTo_zero _ _ _).symm, Nat.le_refl _, Own.nil _ _ _ _ _, hb2w⟩
      case round =>
        obtain ⟨k, R, c, cur, hk, rfl, rfl, hcur, hck, hown, hbl⟩ := hrel
        have hsz := hbl.size
        by_cases hklt : k < fs.length
        · have hrA := h.below ((hbl.alloc hsz (.cells #[Value.string (gt fs k).1, Value.string (gt fs k).2.1, Value.string (gt fs k).2.2.1, Value.int .i64 (gt fs k).2.2.2] 34)).mono hB)
          have htA := ht.below ((hbl.alloc hsz (.cells #[Value.string (gt fs k).1, Value.string (gt fs k).2.1, Value.string (gt fs k).2.2.1, Value.int .i64 (gt fs k).2.2.2] 34)).mono hB)
          have hownA := Own.below hown ((Below.refl _ _).alloc (Nat.le_refl _) (.cells #[Value.string (gt fs k).1, Value.string (gt fs k).2.1, Value.string (gt fs k).2.2.1, Value.int .i64 (gt fs k).2.2.2] 34))
          have hblA := hbl.alloc hsz (.cells #[Value.string (gt fs k).1, Value.string (gt fs k).2.1, Value.string (gt fs k).2.2.1, Value.int .i64 (gt fs k).2.2.2] 34)
          obtain ⟨b, off, rfl, hb, hc⟩ := (h.below (hbl.mono hB)).at_ (by omega)
          have c0 : wr.cell? ⟨b, off + k * 4, none⟩ = some (Value.string (gt fs k).1) := hc k 0 (by omega) (by omega)
          have c1 : wr.cell? ⟨b, off + k * 4 + 1, none⟩ = some (Value.string (gt fs k).2.1) := hc k 1 (by omega) (by omega)
          have c2 : wr.cell? ⟨b, off + k * 4 + 2, none⟩ = some (Value.string (gt fs k).2.2.1) := hc k 2 (by omega) (by omega)
          have c3 : wr.cell? ⟨b, off + k * 4 + 3, none⟩ = some (Value.int .i64 (gt fs k).2.2.2) := hc k 3 (by omega) (by omega)
          have e0 : (wr.alloc (.cells #[Value.string (gt fs k).1, Value.string (gt fs k).2.1, Value.string (gt fs k).2.2.1, Value.int .i64 (gt fs k).2.2.2] 34)).cell? ⟨wr.heap.size, 0, none⟩ = some (Value.string (gt fs k).1) := by rw [World.cell?_alloc_at _ _ _ _ rfl]; rfl
          have e1 : (wr.alloc (.cells #[Value.string (gt fs k).1, Value.string (gt fs k).2.1, Value.string (gt fs k).2.2.1, Value.int .i64 (gt fs k).2.2.2] 34)).cell? ⟨wr.heap.size, 1, none⟩ = some (Value.string (gt fs k).2.1) := by rw [World.cell?_alloc_at _ _ _ _ rfl]; rfl
          have e2 : (wr.alloc (.cells #[Value.string (gt fs k).1, Value.string (gt fs k).2.1, Value.string (gt fs k).2.2.1, Value.int .i64 (gt fs k).2.2.2] 34)).cell? ⟨wr.heap.size, 2, none⟩ = some (Value.string (gt fs k).2.2.1) := by rw [World.cell?_alloc_at _ _ _ _ rfl]; rfl
          have e3 : (wr.alloc (.cells #[Value.string (gt fs k).1, Value.string (gt fs k).2.1, Value.string (gt fs k).2.2.1, Value.int .i64 (gt fs k).2.2.2] 34)).cell? ⟨wr.heap.size, 3, none⟩ = some (Value.int .i64 (gt fs k).2.2.2) := by rw [World.cell?_alloc_at _ _ _ _ rfl]; rfl
          have hszA : wr.heap.size < (wr.alloc (.cells #[Value.string (gt fs k).1, Value.string (gt fs k).2.1, Value.string (gt fs k).2.2.1, Value.int .i64 (gt fs k).2.2.2] 34)).heap.size := by simp
          clear hc hown hbl
          go_wp2_with fail
          generalize (wr.alloc (.cells #[Value.string (gt fs k).1, Value.string (gt fs k).2.1, Value.string (gt fs k).2.2.1, Value.int .i64 (gt fs k).2.2.2] 34)) = wA at *
          refine (implIsBuried_any T capT B ts (gt fs k).1 now wA htA (by omega) hlt hcapT HT.out).mono ?_
          rintro e w3 ⟨rfl, hb3⟩
          have hbl3 := hblA.trans (hb3.mono (by omega))
          have hs3 := hbl3.size
          have hown3 := Own.below hownA hb3
          have f0 := (hb3.cell (by show wr.heap.size < _; omega)).trans e0
          have f1 := (hb3.cell (by show wr.heap.size < _; omega)).trans e1
          have f2 := (hb3.cell (by show wr.heap.size < _; omega)).trans e2
          have f3 := (hb3.cell (by show wr.heap.size < _; omega)).trans e3
          cases hq : buriedB ts (gt fs k).1 now
          · have HN := Lib.hid (liveTo_not hklt hq)
            clear hq
            go_wp2_with (at_builtin; refine wpList_app rfl (.tmp 30) (.tmp 32) _ rfl w.heap.size 34 _ 4 56 Try.underlying23 info_Item rfl (by omega) R (some ⟨w3.heap.size, 0, none⟩) cur.length c 1 1 (w3.heap.size + 1) (cE 4 encItem cur) (encItem (gt fs k)) rfl rfl (Own.below hown3 ((Below.refl _ _).alloc (Nat.le_refl _) _)) (rd_elem _ _ _ _ (fun j hj => by rcases (by omega : j = 0 ∨ j = 1 ∨ j = 2 ∨ j = 3) with rfl | rfl | rfl | rfl <;> rfl)) (fun _ _ => encItem_one _ _) (by simp only [maxLen]; omega) (by omega) (by first | omega | (simp; done) | (simp; omega)) ?_; intro T1 cap1 w2 hown2 hg2)
            go_roundw
            case rel => exact ⟨k + 1, T1, cap1, cur ++ [gt fs k], by omega, by go_num, by rw [List.length_append]; rfl, Lib.hid (by rw [HN.out, ← hcur.out]), by rw [List.length_append]; simp; omega, OwnE.snoc (by omega) hown2, hbl3.trans (((Below.refl _ _).alloc hs3 _).trans (grown_below hg2 (fun b hb => (Own.lt hown3 hb).1) (by first | omega | (simp; done) | (simp; omega))))⟩
            case measure => simp [intOf]; omega
          · have HN := Lib.hid (liveTo_is hklt hq)
            clear hq
            go_wp2_with fail
            go_roundw
            case rel => exact ⟨k + 1, R, c, cur, by omega, by go_num, rfl, Lib.hid (by rw [HN.out, ← hcur.out]), by omega, hown3, hbl3⟩
            case measure => simp [intOf]; omega
        · obtain rfl : k = fs.length := by omega
          go_wp2_with fail
          go_ret
          rw [HE.out, ← hcur.out]
          exact ⟨_, _, rfl, hown, hbl⟩
    · have hv2' : tmB ts = false := by simpa using hv2
      have HE := Lib.hid (liveOf_bad2 (fs := fs) (now := now) hv2')
      clear hv2
      go_enter Try.func6, Try.ntmps6
      go_wp2_with fail
      refine (implFeedValid_any A cap B fs w h hB hl hcap HF.out).mono ?_
      rintro e w1 ⟨rfl, hb1⟩
      have hs1 := hb1.size
      go_wp2_with fail
      refine (implTombsValid_any T capT B ts w1 (ht.below (hb1.mono hB)) (Nat.le_trans hB hs1) hlt hcapT HT.out).mono ?_
      rintro e w2 ⟨rfl, hb2⟩
      have hb2w := hb1.trans (hb2.mono hs1)
      have hs2 := hb2w.size
      go_wp2_with fail
      go_ret
      rw [HE.out]
      exact ⟨none, 0, rfl, Own.nil _ _ _ _ _, hb2w⟩
  · have hv' : fdB fs = false := by simpa using hv
    have HE := Lib.hid (liveOf_bad1 (ts := ts) (now := now) hv')
    clear hv
    go_enter Try.func6, Try.ntmps6
    go_wp2_with fail
    refine (implFeedValid_any A cap B fs w h hB hl hcap HF.out).mono ?_
    rintro e w1 ⟨rfl, hb1⟩
    have hs1 := hb1.size
    go_wp2_with fail
    go_ret
    rw [HE.out]
    exact ⟨none, 0, rfl, Own.nil _ _ _ _ _, hb1⟩
set_option maxHeartbeats 1600000 in
theorem specLiveItems_any (A : Option Addr) (cap : Nat) (T : Option Addr) (capT B : Nat) (fs : List ElItem) (ts : List ElTomb) (now : Int) (w : World) (h : RdE 4 encItem w B A fs) (ht : RdE 2 encTomb w B T ts) (hB : B ≤ w.heap.size) (hl : fs.length ≤ 140737488351232) (hlt : ts.length ≤ 140737488351232) (hfz : ∀ k, k < fs.length → (gt fs k).1.size ≤ maxLen ∧ (gt fs k).2.1.size ≤ maxLen ∧ (gt fs k).2.2.1.size ≤ maxLen) (htz : ∀ k, k < ts.length → (gt ts k).1.size ≤ maxLen) :
    Calls Try.prog 8 #[.slice A fs.length cap, .slice T ts.length capT, .int .i64 now] w fun e w' => ∃ R cR, e = .returned (.slice R (liveOf fs ts now).length cR) ∧ OwnE 4 encItem 34 w' w.heap.size R cR (liveOf fs ts now) ∧ Below w.heap.size w w' := by
  have hemp : OwnE 4 encItem 34 (w.alloc (.cells #[] 34)) w.heap.size (some ⟨w.heap.size, 0, none⟩) 0 ([] : List ElItem) := Own.lit w 34 4 0 #[] _ (Nat.zero_le _) rfl
  have hemb : Below w.heap.size w (w.alloc (.cells #[] 34)) := (Below.refl _ _).alloc (Nat.le_refl _) _
  have HF := Lib.hid hfz
  have HT := Lib.hid htz
  clear hfz htz
  by_cases hv : fdB fs = true
  · have h8 := fd_len hv
    by_cases hv2 : tmB ts = true
    · have HE := Lib.hid (liveOf_yes (now := now) hv hv2)
      go_enter Try.func8, Try.ntmps8
      go_wp2_with fail
      go_loopw [7, 8] (fun v i wr => ∃ (k : Nat) (R : Option Addr) (c : Nat) (cur : List ElItem), k ≤ fs.length ∧ i = .int .i64 k ∧ v = .slice R cur.length c ∧ Hid (cur = liveTo fs ts now k) ∧ cur.length ≤ k ∧ OwnE 4 encItem 34 wr w.heap.size R c cur ∧ Below w.heap.size w wr) (fun _ i _ => fs.length - (intOf i).toNat)
      case atStart => exact ⟨0, _, 0, [], Nat.zero_le _, rfl, rfl, Lib.hid (liveTo_zero _ _ _).symm, Nat.le_refl _, hemp, hemb⟩
      case round =>
        clear hemp hemb
        obtain ⟨k, R, c, cur, hk, rfl, rfl, hcur, hck, hown, hbl⟩ := hrel
        have hsz := hbl.size
        by_cases hklt : k < fs.length
        · have k1 : decide ((k : Int) < (fs.length : Int)) = true := by simp [hklt]
          have k2 : decide (k < fs.length) = true := by simp [hklt]
          go_wp2_with fail
          refine (specFeedValid_any A cap B fs wr (h.below (hbl.mono hB)) (Nat.le_trans hB hbl.size) hl HF.out).mono ?_
          rintro e w1 ⟨rfl, hb1⟩
          have hbl1 := hbl.trans (hb1.mono hbl.size)
          go_wp2_with fail
          refine (specTombsValid_any T capT B ts w1 (ht.below (hbl1.mono hB)) (Nat.le_trans hB hbl1.size) hlt HT.out).mono ?_
          rintro e w2 ⟨rfl, hb2⟩
          have hbl2 := hbl1.trans (hb2.mono hbl1.size)
          have hs2 := hbl2.size
          have hown2 := Own.below (Own.below hown hb1) hb2
          have hr2 := h.below (hbl2.mono hB)
          have ht2 := ht.below (hbl2.mono hB)
          obtain ⟨b, off, rfl, hb, hc⟩ := (h.below (hbl2.mono hB)).at_ (by omega)
          have c0 : w2.cell? ⟨b, off + k * 4, none⟩ = some (Value.string (gt fs k).1) := hc k 0 (by omega) (by omega)
          have c1 : w2.cell? ⟨b, off + k * 4 + 1, none⟩ = some (Value.string (gt fs k).2.1) := hc k 1 (by omega) (by omega)
          have c2 : w2.cell? ⟨b, off + k * 4 + 2, none⟩ = some (Value.string (gt fs k).2.2.1) := hc k 2 (by omega) (by omega)
          have c3 : w2.cell? ⟨b, off + k * 4 + 3, none⟩ = some (Value.int .i64 (gt fs k).2.2.2) := hc k 3 (by omega) (by omega)
          have HC := Lib.hid hc
          clear hc hown hbl hb1 hb2 hbl1
          go_wp2_with fail
          refine (specIsBuried_any T capT B ts (gt fs k).1 now w2 ht2 (by omega) hlt HT.out).mono ?_
          rintro e w3 ⟨rfl, hb3⟩
          have hbl3 := hbl2.trans (hb3.mono hs2)
          have hs3 := hbl3.size
          have hown3 := Own.below hown2 hb3
          have f0 := (hb3.cell (by show b < _; omega)).trans c0
          have f1 := (hb3.cell (by show b < _; omega)).trans c1
          have f2 := (hb3.cell (by show b < _; omega)).trans c2
          have f3 := (hb3.cell (by show b < _; omega)).trans c3
          clear c0 c1 c2 c3
          cases hq : buriedB ts (gt fs k).1 now
          · have HN := Lib.hid (liveTo_not hklt hq)
            clear hq
            go_wp2_with (at_builtin; refine wpList_app rfl (.tmp 33) (.tmp 38) _ rfl w.heap.size 34 _ 4 56 Try.underlying23 info_Item rfl (by omega) R (some ⟨w3.heap.size, 0, none⟩) cur.length c 1 1 (w3.heap.size + 1) (cE 4 encItem cur) (encItem (gt fs k)) rfl rfl (Own.below hown3 ((Below.refl _ _).alloc (Nat.le_refl _) _)) (rd_elem _ _ _ _ (fun j hj => by rcases (by omega : j = 0 ∨ j = 1 ∨ j = 2 ∨ j = 3) with rfl | rfl | rfl | rfl <;> rfl)) (fun _ _ => encItem_one _ _) (by simp only [maxLen]; omega) (by omega) (by first | omega | (simp; done) | (simp; omega)) ?_; intro T1 cap1 w4 hown4 hg2)
            go_roundw
            case rel => exact ⟨k + 1, T1, cap1, cur ++ [gt fs k], by omega, by go_num, by rw [List.length_append]; rfl, Lib.hid (by rw [HN.out, ← hcur.out]), by rw [List.length_append]; simp; omega, OwnE.snoc (by omega) hown4, hbl3.trans (((Below.refl _ _).alloc hs3 _).trans (grown_below hg2 (fun b hb => (Own.lt hown3 hb).1) (by first | omega | (simp; done) | (simp; omega))))⟩
            case measure => simp [intOf]; omega
          · have HN := Lib.hid (liveTo_is hklt hq)
            clear hq
            go_wp2_with fail
            go_roundw
            case rel => exact ⟨k + 1, R, c, cur, by omega, by go_num, rfl, Lib.hid (by rw [HN.out, ← hcur.out]), by omega, hown3, hbl3⟩
            case measure => simp [intOf]; omega
        · obtain rfl : k = fs.length := by omega
          go_wp2_with fail
          go_ret
          rw [HE.out, ← hcur.out]
          exact ⟨_, _, rfl, hown, hbl⟩
    · have hv2' : tmB ts = false := by simpa using hv2
      have HE := Lib.hid (liveOf_bad2 (fs := fs) (now := now) hv2')
      clear hv2
      by_cases hpos : 0 < fs.length
      · have k1 : decide ((0 : Int) < (fs.length : Int)) = true := decide_eq_true (by omega)
        go_enter Try.func8, Try.ntmps8
        go_wp2_with fail
        refine wp_loop_rounds 1 ?_
        rw [rounds_succ]
        go_wp2_with fail
        refine (specFeedValid_any A cap B fs _ (h.below (hemb.mono hB)) (Nat.le_trans hB hemb.size) hl HF.out).mono ?_
        rintro e w1 ⟨rfl, hb1⟩
        have hbl1 := hemb.trans (hb1.mono hemb.size)
        go_wp2_with fail
        refine (specTombsValid_any T capT B ts w1 (ht.below (hbl1.mono hB)) (Nat.le_trans hB hbl1.size) hlt HT.out).mono ?_
        rintro e w2 ⟨rfl, hb2⟩
        have hbl2 := hbl1.trans (hb2.mono hbl1.size)
        go_wp2_with fail
        go_ret
        rw [HE.out]
        exact ⟨_, _, rfl, Own.below (Own.below hemp hb1) hb2, hbl2⟩
      · have k1 : decide ((0 : Int) < (fs.length : Int)) = false := decide_eq_false (by omega)
        go_enter Try.func8, Try.ntmps8
        go_wp2_with fail
        refine wp_loop_rounds 1 ?_
        rw [rounds_succ]
        go_wp2_with fail
        go_ret
        rw [HE.out]
        exact ⟨_, _, rfl, hemp, hemb⟩
  · have hv' : fdB fs = false := by simpa using hv
    have HE := Lib.hid (liveOf_bad1 (ts := ts) (now := now) hv')
    clear hv
    by_cases hpos : 0 < fs.length
    · have k1 : decide ((0 : Int) < (fs.length : Int)) = true := decide_eq_true (by omega)
      go_enter Try.func8, Try.ntmps8
      go_wp2_with fail
      refine wp_loop_rounds 1 ?_
      rw [rounds_succ]
      go_wp2_with fail
      refine (specFeedValid_any A cap B fs _ (h.below (hemb.mono hB)) (Nat.le_trans hB hemb.size) hl HF.out).mono ?_
      rintro e w1 ⟨rfl, hb1⟩
      have hbl1 := hemb.trans (hb1.mono hemb.size)
      go_wp2_with fail
      go_ret
      rw [HE.out]
      exact ⟨_, _, rfl, Own.below hemp hb1, hbl1⟩
    · have k1 : decide ((0 : Int) < (fs.length : Int)) = false := decide_eq_false (by omega)
      go_enter Try.func8, Try.ntmps8
      go_wp2_with fail
      refine wp_loop_rounds 1 ?_
      rw [rounds_succ]
      go_wp2_with fail
      go_ret
      rw [HE.out]
      exact ⟨_, _, rfl, hemp, hemb⟩
end Go.Proofs.Ytnplpllhochlfaa
