import Derived.Test.YtdcppbaahoimfaaDrawPlace
import Derived.Test.YtdcppbaahoimfaaAddMoveB
import Derived.Test.YtdcppbaahoimfaaWhereB
import Derived.Test.YtdcppbaahoimfaaChain
import Derived.Test.YtdcppbaahoimfaaMakeKit
namespace Go.Proofs.Ytdcppbaahoimfaa
open Go.RowKit
/-- Moves drawn: some list, in new memory. -/
def DrewM (g m : Nat) (w : World) (e : Ending) (w' : World) : Prop := ∃ (A : Option Addr) (cap : Nat) (xs : List ElMove), e = .returned (.slice A xs.length cap) ∧ xs.length ≤ 9 ∧ (∀ k, k < xs.length → (gt xs k).1.1.size ≤ maxLen ∧ (gt xs k).1.2.size ≤ maxLen ∧ (gt xs k).2.1.size ≤ maxLen ∧ (gt xs k).2.2.size ≤ maxLen) ∧ OwnE 4 encMove 30 w' w.heap.size A cap xs ∧ Rdr w' g m ∧ w.grownBy w' (some g)
theorem whereOf_sz {ms : List ElMove} (h : ∀ k, k < ms.length → (gt ms k).1.1.size ≤ maxLen ∧ (gt ms k).1.2.size ≤ maxLen ∧ (gt ms k).2.1.size ≤ maxLen ∧ (gt ms k).2.2.size ≤ maxLen) {x : ElHandle} (hx : x.1.size ≤ maxLen ∧ x.2.size ≤ maxLen) : (whereOf ms x).1.size ≤ maxLen ∧ (whereOf ms x).2.size ≤ maxLen := by
  unfold whereOf
  split
  · have ho : ∀ i, (orb ms x i).1.size ≤ maxLen ∧ (orb ms x i).2.size ≤ maxLen := fun i => by
      induction i with
      | zero => exact hx
      | succ i ih =>
        rw [orb_succ]
        unfold nextH
        split
        · next q => exact ⟨(h _ q).2.2.1, (h _ q).2.2.2⟩
        · exact ih
    exact ho _
  · exact ⟨by simp only [maxLen]; decide, by simp only [maxLen]; decide⟩
set_option maxHeartbeats 3200000 in
theorem l20Moves_any (g m : Nat) (n : Int) (w : World) (h : Rdr w g m) (hm : m ≤ 900000) (hn : 0 ≤ n) (hn2 : n ≤ 1000000) :
    Calls Try.prog 43 #[.pointer (some ⟨g, 0, none⟩), .int .i64 n] w (DrewM g (m + 100) w) := by
  have hlt := h.lt
  go_enter Try.func43, Try.ntmps43
  go_wp2_with fail
  refine (pick_any g m _ _ (h.alloc _) (by omega)).mono ?_
  rintro e w1 ⟨y, rfl, hy0, hy1, hr1, hg1⟩
  obtain ⟨y0, rfl⟩ := Int.eq_ofNat_of_zero_le hy0
  have hyb : y0 ≤ 7 := by omega
  have ho1 : OwnE 4 encMove 30 w1 w.heap.size (some ⟨w.heap.size, 0, none⟩) 0 ([] : List ElMove) := keptG (xs := []) (Own.lit w 30 4 0 #[] (cE 4 encMove ([] : List ElMove)) (Nat.zero_le _) rfl) hg1 hlt
  have hw1 := (only_alloc w (some g) (World.grownBy.refl _ _) _).trans hg1
  clear hy0 hy1 hg1
  go_wp2_with fail
  go_loopw [5, 6, 7, 8, 9] (fun v i _ _ _ wr => ∃ (c y : Nat) (T : Option Addr) (cap : Nat) (cur : List ElMove), c + y ≤ 7 ∧ i = .int .i64 y ∧ v = .slice T cur.length cap ∧ cur.length ≤ 8 ∧ Hid (∀ k, k < cur.length → (gt cur k).1.1.size ≤ maxLen ∧ (gt cur k).1.2.size ≤ maxLen ∧ (gt cur k).2.1.size ≤ maxLen ∧ (gt cur k).2.2.size ≤ maxLen) ∧ OwnE 4 encMove 30 wr w.heap.size T cap cur ∧ Rdr wr g (m + 1 + 6 * c) ∧ w.grownBy wr (some g)) (fun _ i _ _ _ _ => (intOf i).toNat)
  case atStart => exact ⟨0, y0, _, 0, [], by omega, rfl, rfl, by simp, Lib.hid (fun k hk => by simp at hk), ho1, hr1, hw1⟩
  case round =>
    obtain ⟨c, y, T, cap, cur, hcy, rfl, rfl, hcl, HSZ, hown, hr, hw⟩ := hrel
    clear ho1 hr1 hw1
    have hsz := hw.size
    by_cases hlt2 : 0 < y
    · obtain ⟨y, rfl⟩ : ∃ z, y = z + 1 := ⟨y - 1, by omega⟩
      have hd : decide (0 < ((y + 1 : Nat) : Int)) = true := decide_eq_true (by omega)
      go_wp2_with fail
      refine (l20Place_any g _ _ _ hr (by omega) (by omega) (by omega)).mono ?_
      rintro e w2 ⟨a, b, rfl, ha, hb, hr2, hg2⟩
      have e0 : (w2.alloc (.cells #[.string a, .string b] 28)).cell? ⟨w2.heap.size, 0, none⟩ = some (.string a) := by rw [World.cell?_alloc_at _ _ _ _ rfl]; rfl
      have e1 : (w2.alloc (.cells #[.string a, .string b] 28)).cell? ⟨w2.heap.size, 1, none⟩ = some (.string b) := by rw [World.cell?_alloc_at _ _ _ _ rfl]; rfl
      have hown2 := keptG hown hg2 hlt
      have hw2 := hw.trans hg2
      have hs2 := hw2.size
      have hownX := Own.below hown2 ((Below.refl _ _).alloc (Nat.le_refl _) (.cells #[.string a, .string b] 28))
      have hwX := only_alloc w (some g) hw2 (.cells #[.string a, .string b] 28)
      have hrX := hr2.alloc (.cells #[.string a, .string b] 28)
      have hzX : w2.heap.size < (w2.alloc (.cells #[.string a, .string b] 28)).heap.size := by simp
      have hgb : g < w2.heap.size := by omega
      clear hown2 hw2 hr2 hg2 hown hr hw
      go_wp2_with fail
      generalize (w2.alloc (.cells #[.string a, .string b] 28)) = wX at *
      have d0 : wX.drew.cell? ⟨w2.heap.size, 0, none⟩ = some (.string a) := e0
      have d1 : wX.drew.cell? ⟨w2.heap.size, 1, none⟩ = some (.string b) := e1
      have hrD : Rdr wX.drew g (m + 1 + 6 * c + 3) := hrX
      go_region_held3 (fun w' => w'.cell? ⟨w2.heap.size, 0, none⟩ = some (.string a) ∧ w'.cell? ⟨w2.heap.size, 1, none⟩ = some (.string b)) (first | exact ⟨d0, d1⟩ | exact ⟨k0, k1⟩ | exact ⟨j0, j1⟩ | go_keep) (first
        | (go_at_call 50; refine (l20Place_any g _ _ _ hrD (by omega) (by omega) (by omega)).mono ?_; rintro e w3 ⟨p, q, rfl, hp, hq, hr3, hg3⟩; have hg3' : wX.grownBy w3 (some g) := ⟨hg3.os, hg3.tape, hg3.output, hg3.size, hg3.block⟩; have hown3 := keptG hownX hg3' hlt; have hw3 := hwX.trans hg3'; have hs3 := hw3.size; have k0 := (World.cell?_of_block (w := wX) (a := ⟨w2.heap.size, 0, none⟩) (hg3'.block w2.heap.size hzX (fun e => by injection e; omega))).trans e0; have k1 := (World.cell?_of_block (w := wX) (a := ⟨w2.heap.size, 1, none⟩) (hg3'.block w2.heap.size hzX (fun e => by injection e; omega))).trans e1; have hz3 := Nat.lt_of_lt_of_le hzX hg3'.size; clear hg3)
        | (go_at_call 27; refine (specAddMove_any _ _ _ cur ((a, b), (p, q)) _ (OwnE.rd hown3) (Nat.le_refl _) (by omega) HSZ.out ⟨sz40 ha, sz40 hb, sz40 hp, sz40 hq⟩).mono ?_; rintro e w4 ⟨T4, cap4, rfl, ho4, hb4⟩; have j0 := (hb4.cell (p := ⟨w2.heap.size, 0, none⟩) hz3).trans k0; have j1 := (hb4.cell (p := ⟨w2.heap.size, 1, none⟩) hz3).trans k1))
      have hl4 := addMOf_len cur ((a, b), (p, q))
      have hw4 := only_below hw3 hb4 hs3
      have hr4 := hr3.below hb4 (by omega)
      have ho4w := Own.more ho4 hs3
      have HS4 := Lib.hid (addMOf_sz HSZ.out (m := ((a, b), (p, q))) ⟨sz40 ha, sz40 hb, sz40 hp, sz40 hq⟩)
      clear hb4 ho4 hr3 hw3 hown3 hownX hwX hrX hrD e0 e1 d0 d1 k0 k1 j0 j1
      go_wp2_with fail
      go_roundw
      case rel => exact ⟨c + 1, y, T4, cap4, _, by omega, by go_num, rfl, hl4, HS4, ho4w, hr4.more (by omega), hw4⟩
      case measure => first | (simp [intOf]; done) | (simp [intOf]; omega)
    · have hd : decide (0 < (y : Int)) = false := decide_eq_false (by omega)
      go_wp2_with fail
      refine (odd_any g _ _ _ hr (by omega) hn hn2).mono ?_
      rintro e w2 ⟨q, rfl, hr2, hg2⟩
      have hown2 := keptG hown hg2 hlt
      have hw2 := hw.trans hg2
      have hs2 := hw2.size
      clear hown hr hw hg2 hd
      cases q
      · go_wp2_with fail
        go_ret
        exact ⟨T, cap, cur, rfl, by omega, HSZ.out, hown2, hr2.more (by omega), hw2⟩
      · by_cases h0 : 0 < cur.length
        · have d0 : decide (0 < (cur.length : Int)) = true := decide_eq_true (by omega)
          have d0n : decide (0 < cur.length) = true := decide_eq_true h0
          go_wp2_with fail
          refine (pick_any g _ _ _ hr2 (by omega)).mono ?_
          rintro e w3 ⟨z, rfl, hz0, hz1, hr3, hg3⟩
          have hown3 := keptG hown2 hg3 hlt
          have hw3 := hw2.trans hg3
          have hs3 := hw3.size
          clear hown2 hw2 hr2 hg3 d0 d0n
          by_cases hz : z = 0
          · have e0 : (z == 0) = true := beq_iff_eq.2 hz
            clear hz
            rcases hown3.shape with ⟨_, hq0, _⟩ | ⟨b, rfl, hbb, hbl, hcp, hmx⟩
            · omega
            · unfold maxLen at hmx
              have c0 : w3.cell? ⟨b, 0, none⟩ = some (Value.string (gt cur 0).1.1) := Own.cell hown3 rfl (j := 0) (by omega)
              have c1 : w3.cell? ⟨b, 1, none⟩ = some (Value.string (gt cur 0).1.2) := Own.cell hown3 rfl (j := 1) (by omega)
              have s0 := HSZ.out 0 h0
              have h0i : (0 : Int) < (cur.length : Int) := by omega
              go_wp2_with fail
              refine wp_region_makes 13 [(isS (.slice (some ⟨b, 0, none⟩) cur.length cap)), (isS (.slice (some ⟨b, 0, none⟩) cur.length cap)), (isS (.slice (some ⟨b, 0, none⟩) cur.length cap)), (isS (.pointer (some ⟨b, 0, none⟩))), (isS (.pointer (some ⟨b, 0, none⟩))), (isS (.agg #[.string (gt cur 0).1.1, .string (gt cur 0).1.2])), (isS (.agg #[.string (whereOf cur (gt cur 0).1).1, .string (whereOf cur (gt cur 0).1).2])), (isS (.slice (some ⟨b, 0, none⟩) cur.length cap)), (isS (.pointer (some ⟨b, 0, none⟩))), (isS (.pointer (some ⟨b, 0, none⟩))), (isS (.agg #[.string (gt cur 0).1.1, .string (gt cur 0).1.2])), (isS (.agg #[.string (whereOf cur (gt cur 0).1).1, .string (whereOf cur (gt cur 0).1).2, .string (gt cur 0).1.1, .string (gt cur 0).1.2])), (tabB w.heap.size 1 #[.string (whereOf cur (gt cur 0).1).1, .string (whereOf cur (gt cur 0).1).2, .string (gt cur 0).1.1, .string (gt cur 0).1.2])] [0, 0, 0, 0, 0, 0, 0, 0, 0, 0, 0, 0, 0] (by kernel_rfl) (by kernel_rfl) (by rfl) (by rfl) (by rfl) ?_ ?_ ?_
              · repeat (first | exact stbB_nil | refine stbB_cons (by first | exact isS_stb _ | exact tabB_stb _ _ _) ?_)
              · simp only [List.take_succ_cons, List.take_zero]
                refine looseSteps_cons (fun k a' w' hk0 hk1 hR hG hkp hd => ?_) ?_
                · have hR0 : Below w3.drew.heap.size w3.drew w' := hR
                  have hRb : Below w3.heap.size w3 w' := ⟨hR0.os, hR0.tape, hR0.output, hR0.size, hR0.block⟩
                  have k0 : a'.tmps.getD 5 undef = .slice (some ⟨b, 0, none⟩) cur.length cap := hkp 5 (by rfl)
                  unfold looseRun
                  go_simp
                  exact ⟨Below.refl _ _, trivial, rfl⟩
                refine looseSteps_cons (fun k a' w' hk0 hk1 hR hG hkp hd => ?_) ?_
                · have hR0 : Below w3.drew.heap.size w3.drew w' := hR
                  have hRb : Below w3.heap.size w3 w' := ⟨hR0.os, hR0.tape, hR0.output, hR0.size, hR0.block⟩
                  have k0 : a'.tmps.getD 5 undef = .slice (some ⟨b, 0, none⟩) cur.length cap := hkp 5 (by rfl)
                  unfold looseRun
                  go_simp
                  exact ⟨Below.refl _ _, trivial, rfl⟩
                refine looseSteps_cons (fun k a' w' hk0 hk1 hR hG hkp hd => ?_) ?_
                · have hR0 : Below w3.drew.heap.size w3.drew w' := hR
                  have hRb : Below w3.heap.size w3 w' := ⟨hR0.os, hR0.tape, hR0.output, hR0.size, hR0.block⟩
                  have k0 : a'.tmps.getD 5 undef = .slice (some ⟨b, 0, none⟩) cur.length cap := hkp 5 (by rfl)
                  unfold looseRun
                  go_simp
                  exact ⟨Below.refl _ _, trivial, rfl⟩
                refine looseSteps_cons (fun k a' w' hk0 hk1 hR hG hkp hd => ?_) ?_
                · have hR0 : Below w3.drew.heap.size w3.drew w' := hR
                  have hRb : Below w3.heap.size w3 w' := ⟨hR0.os, hR0.tape, hR0.output, hR0.size, hR0.block⟩
                  have e42 := hd.1 rfl
                  have e42' : a'.tmps.getD 42 undef = _ := e42
                  have e42q := e42'
                  rw [Array.getD_eq_getD_getElem?] at e42q
                  clear e42
                  unfold looseRun
                  go_simp
                  exact ⟨Below.refl _ _, trivial, rfl⟩
                refine looseSteps_cons (fun k a' w' hk0 hk1 hR hG hkp hd => ?_) ?_
                · have hR0 : Below w3.drew.heap.size w3.drew w' := hR
                  have hRb : Below w3.heap.size w3 w' := ⟨hR0.os, hR0.tape, hR0.output, hR0.size, hR0.block⟩
                  have e43 := hd.1 rfl
                  have e43' : a'.tmps.getD 43 undef = _ := e43
                  have e43q := e43'
                  rw [Array.getD_eq_getD_getElem?] at e43q
                  clear e43
                  unfold looseRun
                  go_simp
                  exact ⟨Below.refl _ _, trivial, rfl⟩
                refine looseSteps_cons (fun k a' w' hk0 hk1 hR hG hkp hd => ?_) ?_
                · have hR0 : Below w3.drew.heap.size w3.drew w' := hR
                  have hRb : Below w3.heap.size w3 w' := ⟨hR0.os, hR0.tape, hR0.output, hR0.size, hR0.block⟩
                  have e44 := hd.1 rfl
                  have e44' : a'.tmps.getD 44 undef = _ := e44
                  have e44q := e44'
                  rw [Array.getD_eq_getD_getElem?] at e44q
                  clear e44
                  have q0 := cellOn c0 hbl hRb
                  have q1 := cellOn c1 hbl hRb
                  unfold looseRun
                  go_simp
                  exact ⟨Below.refl _ _, trivial, rfl⟩
                refine looseSteps_cons (fun k a' w' hk0 hk1 hR hG hkp hd => ?_) ?_
                · have hR0 : Below w3.drew.heap.size w3.drew w' := hR
                  have hRb : Below w3.heap.size w3 w' := ⟨hR0.os, hR0.tape, hR0.output, hR0.size, hR0.block⟩
                  have e41 := hd.1 rfl
                  have e45 := hd.2.1 rfl
                  have e41' : a'.tmps.getD 41 undef = _ := e41
                  have e41q := e41'
                  rw [Array.getD_eq_getD_getElem?] at e41q
                  clear e41
                  have e45' : a'.tmps.getD 45 undef = _ := e45
                  have e45q := e45'
                  rw [Array.getD_eq_getD_getElem?] at e45q
                  clear e45
                  unfold looseRun
                  go_simp
                  refine ⟨rfl, (specWhereIs_any _ _ w3.heap.size cur (gt cur 0).1 _ ((OwnE.rd hown3).below hRb) hRb.size (by omega) HSZ.out s0.1 s0.2.1).mono ?_⟩
                  rintro e w4 ⟨rfl, hb4⟩
                  exact ⟨_, rfl, hb4, trivial, rfl⟩
                refine looseSteps_cons (fun k a' w' hk0 hk1 hR hG hkp hd => ?_) ?_
                · have hR0 : Below w3.drew.heap.size w3.drew w' := hR
                  have hRb : Below w3.heap.size w3 w' := ⟨hR0.os, hR0.tape, hR0.output, hR0.size, hR0.block⟩
                  have k0 : a'.tmps.getD 5 undef = .slice (some ⟨b, 0, none⟩) cur.length cap := hkp 5 (by rfl)
                  unfold looseRun
                  go_simp
                  exact ⟨Below.refl _ _, trivial, rfl⟩
                refine looseSteps_cons (fun k a' w' hk0 hk1 hR hG hkp hd => ?_) ?_
                · have hR0 : Below w3.drew.heap.size w3.drew w' := hR
                  have hRb : Below w3.heap.size w3 w' := ⟨hR0.os, hR0.tape, hR0.output, hR0.size, hR0.block⟩
                  have e47 := hd.1 rfl
                  have e47' : a'.tmps.getD 47 undef = _ := e47
                  have e47q := e47'
                  rw [Array.getD_eq_getD_getElem?] at e47q
                  clear e47
                  unfold looseRun
                  go_simp
                  exact ⟨Below.refl _ _, trivial, rfl⟩
                refine looseSteps_cons (fun k a' w' hk0 hk1 hR hG hkp hd => ?_) ?_
                · have hR0 : Below w3.drew.heap.size w3.drew w' := hR
                  have hRb : Below w3.heap.size w3 w' := ⟨hR0.os, hR0.tape, hR0.output, hR0.size, hR0.block⟩
                  have e48 := hd.1 rfl
                  have e48' : a'.tmps.getD 48 undef = _ := e48
                  have e48q := e48'
                  rw [Array.getD_eq_getD_getElem?] at e48q
                  clear e48
                  unfold looseRun
                  go_simp
                  exact ⟨Below.refl _ _, trivial, rfl⟩
                refine looseSteps_cons (fun k a' w' hk0 hk1 hR hG hkp hd => ?_) ?_
                · have hR0 : Below w3.drew.heap.size w3.drew w' := hR
                  have hRb : Below w3.heap.size w3 w' := ⟨hR0.os, hR0.tape, hR0.output, hR0.size, hR0.block⟩
                  have e49 := hd.1 rfl
                  have e49' : a'.tmps.getD 49 undef = _ := e49
                  have e49q := e49'
                  rw [Array.getD_eq_getD_getElem?] at e49q
                  clear e49
                  have q0 := cellOn c0 hbl hRb
                  have q1 := cellOn c1 hbl hRb
                  unfold looseRun
                  go_simp
                  exact ⟨Below.refl _ _, trivial, rfl⟩
                refine looseSteps_cons (fun k a' w' hk0 hk1 hR hG hkp hd => ?_) ?_
                · have hR0 : Below w3.drew.heap.size w3.drew w' := hR
                  have hRb : Below w3.heap.size w3 w' := ⟨hR0.os, hR0.tape, hR0.output, hR0.size, hR0.block⟩
                  have e46 := hd.1 rfl
                  have e50 := hd.2.1 rfl
                  have e46' : a'.tmps.getD 46 undef = _ := e46
                  have e46q := e46'
                  rw [Array.getD_eq_getD_getElem?] at e46q
                  clear e46
                  have e50' : a'.tmps.getD 50 undef = _ := e50
                  have e50q := e50'
                  rw [Array.getD_eq_getD_getElem?] at e50q
                  clear e50
                  unfold looseRun
                  go_simp
                  exact ⟨Below.refl _ _, trivial, rfl⟩
                refine looseSteps_cons (fun k a' w' hk0 hk1 hR hG hkp hd => ?_) ?_
                · have hR0 : Below w3.drew.heap.size w3.drew w' := hR
                  have hRb : Below w3.heap.size w3 w' := ⟨hR0.os, hR0.tape, hR0.output, hR0.size, hR0.block⟩
                  have e51 := hd.1 rfl
                  have e51' : a'.tmps.getD 51 undef = _ := e51
                  have e51q := e51'
                  rw [Array.getD_eq_getD_getElem?] at e51q
                  clear e51
                  unfold looseRun
                  go_simp
                  exact ⟨below_new _ _, trivial, tabB_new (Nat.le_trans hs3 hRb.size) _ _⟩
                exact looseSteps_nil
              · intro w4 hb4
                simp only [List.take_succ_cons, List.take_zero, List.drop_succ_cons, List.drop_zero]
                refine looseAll_cons fun v40 h40 => ?_
                refine looseAll_cons fun v41 h41 => ?_
                refine looseAll_cons fun v42 h42 => ?_
                refine looseAll_cons fun v43 h43 => ?_
                refine looseAll_cons fun v44 h44 => ?_
                refine looseAll_cons fun v45 h45 => ?_
                refine looseAll_cons fun v46 h46 => ?_
                refine looseAll_cons fun v47 h47 => ?_
                refine looseAll_cons fun v48 h48 => ?_
                refine looseAll_cons fun v49 h49 => ?_
                refine looseAll_cons fun v50 h50 => ?_
                refine looseAll_cons fun v51 h51 => ?_
                refine looseAll_cons fun v52 h52 => ?_
                refine looseAll_nil ?_
                obtain rfl := h40
                obtain ⟨bt, rfl, hbt1, hbt2, hbtc⟩ := h52
                simp only [Act.put, List.setIfInBounds_toArray, List.set_cons_zero, List.set_cons_succ]
                have hown4 := Own.below hown3 hb4
                have hw4 := only_below hw3 hb4 hs3
                have hs4 := hw4.size
                have hr4 := hr3.below hb4 (by omega)
                have hrt : Rd w4 (bt + 1) 4 (some ⟨bt, 0, none⟩) 1 (encMove ((whereOf cur (gt cur 0).1), (gt cur 0).1)) := fun _ => ⟨bt, 0, rfl, by omega, fun j hj => by rw [Nat.zero_add, hbtc j]; rcases (by omega : j = 0 ∨ j = 1 ∨ j = 2 ∨ j = 3) with rfl | rfl | rfl | rfl <;> rfl⟩
                go_wp2_with (at_builtin; refine wpList_app rfl (.tmp 40) (.tmp 52) _ rfl w.heap.size 30 _ 4 64 Try.underlying23 info_Move rfl (by omega) (some ⟨b, 0, none⟩) (some ⟨bt, 0, none⟩) cur.length cap 1 1 (bt + 1) (cE 4 encMove cur) (encMove ((whereOf cur (gt cur 0).1), (gt cur 0).1)) rfl rfl hown4 hrt (fun _ _ => encMove_one _ _) (by simp only [maxLen]; omega) (by omega) hs4 ?_; intro T5 cap5 w5 hown5 hg5)
                go_ret
                have hb5 : Below w.heap.size w4 w5 := grown_below hg5 (fun b hb => (Own.lt hown4 hb).1) hs4
                exact ⟨T5, cap5, cur ++ [((whereOf cur (gt cur 0).1), (gt cur 0).1)], by rw [List.length_append]; rfl, by rw [List.length_append, List.length_singleton]; omega, add_szM HSZ.out ⟨(whereOf_sz HSZ.out ⟨s0.1, s0.2.1⟩).1, (whereOf_sz HSZ.out ⟨s0.1, s0.2.1⟩).2, s0.1, s0.2.1⟩, OwnE.push (by omega) rfl hown5, (hr4.below hb5 hlt).more (by omega), only_below hw4 hb5 (Nat.le_refl _)⟩
          · have e0 : (z == 0) = false := beq_eq_false_iff_ne.2 hz
            clear hz
            go_wp2_with fail
            refine (l20Place_any g _ _ _ hr3 (by omega) (by omega) (by omega)).mono ?_
            rintro e v1 ⟨a, b, rfl, ha, hb, hrv1, hgv1⟩
            go_wp2_with fail
            refine (l20Place_any g _ _ _ hrv1 (by omega) (by omega) (by omega)).mono ?_
            rintro e v2 ⟨p, q, rfl, hp, hq, hrv2, hgv2⟩
            have hownV := keptG (keptG hown3 hgv1 hlt) hgv2 hlt
            have hwV := (hw3.trans hgv1).trans hgv2
            have hsV := hwV.size
            go_wp2_with (at_builtin; refine wpList_app rfl (.tmp 54) (.tmp 60) _ rfl w.heap.size 30 _ 4 64 Try.underlying23 info_Move rfl (by omega) T (some ⟨v2.heap.size, 0, none⟩) cur.length cap 1 1 (v2.heap.size + 1) (cE 4 encMove cur) (encMove ((a, b), (p, q))) rfl rfl (Own.below hownV ((Below.refl _ _).alloc (Nat.le_refl _) _)) (rd_elem _ _ _ _ (fun j hj => by rcases (by omega : j = 0 ∨ j = 1 ∨ j = 2 ∨ j = 3) with rfl | rfl | rfl | rfl <;> rfl)) (fun _ _ => encMove_one _ _) (by simp only [maxLen]; omega) (by omega) (by first | omega | (simp; done) | (simp; omega)) ?_; intro T5 cap5 w5 hown5 hg5)
            go_ret
            have hb5 : Below w.heap.size v2 w5 := ((Below.refl _ _).alloc hsV _).trans (grown_below hg5 (fun b hb => (Own.lt hownV hb).1) (by first | omega | (simp; done) | (simp; omega)))
            exact ⟨T5, cap5, cur ++ [((a, b), (p, q))], by rw [List.length_append]; rfl, by rw [List.length_append, List.length_singleton]; omega, add_szM HSZ.out ⟨sz40 ha, sz40 hb, sz40 hp, sz40 hq⟩, OwnE.push (by omega) rfl hown5, (hrv2.below hb5 hlt).more (by omega), only_below hwV hb5 (Nat.le_refl _)⟩
        · have d0 : decide (0 < (cur.length : Int)) = false := decide_eq_false (by omega)
          have d0n : decide (0 < cur.length) = false := decide_eq_false h0
          go_wp2_with fail
          refine (l20Place_any g _ _ _ hr2 (by omega) (by omega) (by omega)).mono ?_
          rintro e v1 ⟨a, b, rfl, ha, hb, hrv1, hgv1⟩
          go_wp2_with fail
          refine (l20Place_any g _ _ _ hrv1 (by omega) (by omega) (by omega)).mono ?_
          rintro e v2 ⟨p, q, rfl, hp, hq, hrv2, hgv2⟩
          have hownV := keptG (keptG hown2 hgv1 hlt) hgv2 hlt
          have hwV := (hw2.trans hgv1).trans hgv2
          have hsV := hwV.size
          go_wp2_with (at_builtin; refine wpList_app rfl (.tmp 54) (.tmp 60) _ rfl w.heap.size 30 _ 4 64 Try.underlying23 info_Move rfl (by omega) T (some ⟨v2.heap.size, 0, none⟩) cur.length cap 1 1 (v2.heap.size + 1) (cE 4 encMove cur) (encMove ((a, b), (p, q))) rfl rfl (Own.below hownV ((Below.refl _ _).alloc (Nat.le_refl _) _)) (rd_elem _ _ _ _ (fun j hj => by rcases (by omega : j = 0 ∨ j = 1 ∨ j = 2 ∨ j = 3) with rfl | rfl | rfl | rfl <;> rfl)) (fun _ _ => encMove_one _ _) (by simp only [maxLen]; omega) (by omega) (by first | omega | (simp; done) | (simp; omega)) ?_; intro T5 cap5 w5 hown5 hg5)
          go_ret
          have hb5 : Below w.heap.size v2 w5 := ((Below.refl _ _).alloc hsV _).trans (grown_below hg5 (fun b hb => (Own.lt hownV hb).1) (by first | omega | (simp; done) | (simp; omega)))
          exact ⟨T5, cap5, cur ++ [((a, b), (p, q))], by rw [List.length_append]; rfl, by rw [List.length_append, List.length_singleton]; omega, add_szM HSZ.out ⟨sz40 ha, sz40 hb, sz40 hp, sz40 hq⟩, OwnE.push (by omega) rfl hown5, (hrv2.below hb5 hlt).more (by omega), only_below hwV hb5 (Nat.le_refl _)⟩
end Go.Proofs.Ytdcppbaahoimfaa
