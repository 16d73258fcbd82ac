import Derived.Test.YthkdofflfaikgaaTimeB
namespace Go.Proofs.Ythkdofflfaikgaa
open Go.RowKit
theorem inB_40 {many : Int} (h : inB many 0 40 = true) : 0 ≤ many ∧ many ≤ 40 := by
  simp only [inB, Bool.and_eq_true, decide_eq_true_eq] at h; exact h
set_option maxHeartbeats 400000 in
theorem specPostsBefore_any (A : Option Addr) (cap B : Nat) (ps : List ElPost) (when many : Int) (w : World) (h : RdE 2 encPost w B A ps) (hB : B ≤ w.heap.size) (hl : ps.length ≤ 140737488351232) :
    Calls Try.prog 18 #[.slice A ps.length cap, .int .i64 when, .int .i64 many] w fun e w' => ∃ T' cap', e = .returned (.slice T' (postsBefore ps when many).length cap') ∧ OwnE 2 encPost 33 w' w.heap.size T' cap' (postsBefore ps when many) ∧ Below w.heap.size w w' := by
  have hemp : OwnE 2 encPost 33 (w.alloc (.cells #[] 33)) w.heap.size (some ⟨w.heap.size, 0, none⟩) 0 ([] : List ElPost) := Own.lit w 33 2 0 #[] _ (Nat.zero_le _) rfl
  have hemb : Below w.heap.size w (w.alloc (.cells #[] 33)) := (Below.refl _ _).alloc (Nat.le_refl _) _
  by_cases hv : tvB ps = true ∧ inB many 0 40 = true
  · obtain ⟨hv, hin⟩ := hv
    obtain ⟨m0, m1⟩ := inB_40 hin
    have h40 := (Tv.of hv).1
    rw [postsBefore_yes hv m0 m1]
    go_enter Try.func18, Try.ntmps18
    go_wp2_with fail
    go_loopw [7, 8] (fun v i wr => ∃ (k : Nat) (T' : Option Addr) (cap' : Nat) (cur : List ElPost), k ≤ ps.length ∧ i = .int .i64 k ∧ v = .slice T' cur.length cap' ∧ Hid (cur = pbTo ps when many k) ∧ cur.length ≤ k ∧ OwnE 2 encPost 33 wr w.heap.size T' cap' cur ∧ Below w.heap.size w wr) (fun _ i _ => ps.length - (intOf i).toNat)
    case atStart => exact ⟨0, _, 0, [], Nat.zero_le _, rfl, rfl, Lib.hid (pbTo_zero _ _ _).symm, Nat.le_refl _, hemp, hemb⟩
    case round =>
      clear hemp hemb
      obtain ⟨k, T', cap', cur, hk, rfl, rfl, hcur, hck, hown, hbl⟩ := hrel
      by_cases hlt : k < ps.length
      · have hlt2 : decide ((k : Int) < (ps.length : Int)) = true := by simp [hlt]
        have hlt3 : decide (k < ps.length) = true := by simp [hlt]
        by_cases hmany : (cur.length : Int) < many
        · have hm2 : decide ((cur.length : Int) < many) = true := by simp [hmany]
          go_wp2_with fail
          refine (specTimelineValid_any _ _ B ps wr (h.below (hbl.mono hB)) (Nat.le_trans hB hbl.size) hl).mono ?_
          rintro e w1 ⟨rfl, hb1⟩
          have hown1 := Own.below hown hb1
          have hbl1 := hbl.trans (hb1.mono hbl.size)
          have hsz := hbl1.size
          obtain ⟨b, off, rfl, hb, hc⟩ := (h.below (hbl1.mono hB)).at_ (by omega)
          have c0 : w1.cell? ⟨b, off + k * 2, none⟩ = some (Value.int .i64 ((gt ps k).1)) := hc k 0 (by omega) (by omega)
          have c1 : w1.cell? ⟨b, off + k * 2 + 1, none⟩ = some (Value.int .i64 ((gt ps k).2)) := hc k 1 (by omega) (by omega)
          clear hc
          by_cases hwhen : (gt ps k).1 ≤ when
          · have hw2 : decide ((gt ps k).1 ≤ when) = true := by simp [hwhen]
            have HN := Lib.hid (pbTo_one (many := many) hlt hwhen (by rw [← hcur.out]; exact hmany))
            go_wp2_with (first
              | (go_at_call 31; refine (l1In_any _ _ _ _).mono ?_; rintro e w' ⟨rfl, rfl⟩)
              | (at_builtin; refine wpList_app rfl (.tmp 37) (.tmp 42) _ rfl w.heap.size 33 _ 2 16 Try.underlying25 info_Post rfl (by omega) T' (some ⟨w1.heap.size, 0, none⟩) cur.length cap' 1 1 (w1.heap.size + 1) (cE 2 encPost cur) (encPost (gt ps k)) rfl rfl (Own.below hown1 ((Below.refl _ _).alloc (Nat.le_refl _) _)) (rd_elem _ _ _ _ (fun j hj => by rcases (by omega : j = 0 ∨ j = 1) with rfl | rfl <;> rfl)) (fun _ _ => encPost_one _ _) (by simp only [maxLen]; omega) (by omega) (by simp; omega) ?_; intro T1 cap1 w2 hown2 hg2))
            go_roundw
            case rel => exact ⟨k + 1, T1, cap1, cur ++ [gt ps k], by omega, by go_num, by rw [List.length_append]; rfl, Lib.hid (by rw [HN.out, ← hcur.out]), by rw [List.length_append]; simp; omega, OwnE.snoc (by omega) hown2, hbl1.trans (((Below.refl _ _).alloc hsz _).trans (grown_below hg2 (fun b hb => (hown1.lt hb).1) (by simp; omega)))⟩
            case measure => simp [intOf]; omega
          · have hw2 : decide ((gt ps k).1 ≤ when) = false := by simp; omega
            have HN := Lib.hid (pbTo_late (many := many) hlt hwhen)
            go_wp2_with (go_at_call 31; refine (l1In_any _ _ _ _).mono ?_; rintro e w' ⟨rfl, rfl⟩)
            go_roundw
            case rel => exact ⟨k + 1, T', cap', cur, by omega, by go_num, rfl, Lib.hid (by rw [HN.out, ← hcur.out]), by omega, hown1, hbl1⟩
            case measure => simp [intOf]; omega
        · have hm2 : decide ((cur.length : Int) < many) = false := by simp; omega
          have HF := Lib.hid (pbTo_full (ps := ps) (when := when) (k := k) (many := many) (by rw [← hcur.out]; omega) ps.length hk)
          go_wp2_with fail
          go_ret
          rw [HF.out, ← hcur.out]
          exact ⟨_, _, rfl, hown, hbl⟩
      · obtain rfl : k = ps.length := by omega
        go_wp2_with fail
        go_ret
        rw [← hcur.out]
        exact ⟨_, _, rfl, hown, hbl⟩
  · have hno : ¬ (tvB ps = true ∧ 0 ≤ many ∧ many ≤ 40) := fun hh => hv ⟨hh.1, inB_true hh.2.1 hh.2.2⟩
    rw [postsBefore_no hno]
    clear hno
    go_enter Try.func18, Try.ntmps18
    go_wp2_with fail
    refine wp_loop_rounds 1 ?_
    rw [rounds_succ]
    by_cases h0 : 0 < ps.length
    · by_cases hmany : 0 < many
      · have hm2 : decide (0 < many) = true := by simp [hmany]
        have h02 : decide ((0 : Int) < (ps.length : Int)) = true := by simp; omega
        by_cases htv : tvB ps = true
        · have hin : inB many 0 40 = false := by
            cases hq : inB many 0 40
            · rfl
            · exact absurd ⟨htv, hq⟩ hv
          clear hv
          go_wp2_with (first
            | (go_at_call 12; refine (specTimelineValid_any _ _ B ps _ (h.alloc hB _) (by simp; omega) hl).mono ?_; rintro e w1 ⟨rfl, hb1⟩)
            | (go_at_call 31; refine (l1In_any _ _ _ _).mono ?_; rintro e w' ⟨rfl, rfl⟩))
          go_ret
          exact ⟨_, _, rfl, Own.below hemp hb1, hemb.trans (hb1.mono (by simp))⟩
        · have htv' : tvB ps = false := by simpa using htv
          clear hv htv
          go_wp2_with (go_at_call 12; refine (specTimelineValid_any _ _ B ps _ (h.alloc hB _) (by simp; omega) hl).mono ?_; rintro e w1 ⟨rfl, hb1⟩)
          go_ret
          exact ⟨_, _, rfl, Own.below hemp hb1, hemb.trans (hb1.mono (by simp))⟩
      · have hm2 : decide (0 < many) = false := by simp; omega
        clear hv
        go_wp2_with fail
        go_ret
        exact ⟨_, _, rfl, hemp, hemb⟩
    · have h02 : ps.length = 0 := by omega
      clear hv
      go_wp2_with fail
      go_ret
      exact ⟨_, _, rfl, hemp, hemb⟩
end Go.Proofs.Ythkdofflfaikgaa
