import Derived.Test.YtnmgfpphihieiaaTextV
import Derived.Test.YtnmgfpphihieiaaRange
namespace Go.Proofs.Ytnmgfpphihieiaa
open Go.RowKit
set_option maxHeartbeats 800000 in
theorem implCutText_any (s : ByteArray) (many : Int) (w : World) (hs : s.size ≤ maxLen) : Calls Try.prog 13 #[.string s, .int .i64 many] w fun e w' => e = .returned (.string (ctOf s many)) ∧ w = w' := by
  have hbb := bb_eq s
  by_cases hv : textB s = true
  · by_cases hi : inB many 4 80 = true
    · have h80 := (Text.of hv).1
      obtain ⟨hm4, hm80⟩ : 4 ≤ many ∧ many ≤ 80 := by unfold inB at hi; simpa using hi
      obtain ⟨m, rfl⟩ := Int.eq_ofNat_of_zero_le (by omega : 0 ≤ many)
      by_cases hl : s.size ≤ m
      · have dl : decide ((s.size : Int) ≤ (m : Int)) = true := decide_eq_true (by omega)
        have HQ := Lib.hid (ctOf_all hv hi (by omega))
        go_enter Try.func13, Try.ntmps13
        go_wp2_with (first | (go_at_call 10; refine (implTextValid_any _ _ (by assumption)).mono ?_; rintro e w' ⟨rfl, rfl⟩) | (go_at_call 26; refine (within_any _ _ _ _).mono ?_; rintro e w' ⟨rfl, rfl⟩))
        go_ret
        exact ⟨ret_st HQ.out.symm, rfl⟩
      · have dl : decide ((s.size : Int) ≤ (m : Int)) = false := decide_eq_false (by omega)
        have HC := Lib.hid (ctOf_cut hv hi (by omega))
        have HS : Hid (∀ e, ctE s (m - 2) = ctE s e → ctE s e = e → 0 < e → ctOf s (m : Int) = s.extract 0 e ++ dots) := Lib.hid (fun e h1 h2 h3 => by rw [HC.out, ctAt_at (h1.trans h2) h3])
        have HZ : Hid (ctE s (m - 2) = 0 → ctOf s (m : Int) = s.extract 0 (m - 2) ++ dots) := Lib.hid (fun h => by rw [HC.out, ctAt_zero h])
        have hm2 : (m : Int) - 2 = ((m - 2 : Nat) : Int) := by omega
        have HM := Lib.hid hm2
        clear hm2
        go_enter Try.func13, Try.ntmps13
        go_wp2_with (first | (go_at_call 10; refine (implTextValid_any _ _ (by assumption)).mono ?_; rintro e w' ⟨rfl, rfl⟩) | (go_at_call 26; refine (within_any _ _ _ _).mono ?_; rintro e w' ⟨rfl, rfl⟩))
        clear hv hi
        go_loop [5] (fun i => ∃ e : Nat, e + 2 ≤ m ∧ Hid (ctE s (m - 2) = ctE s e) ∧ i = .int .i64 e) (fun i => (intOf i).toNat)
        case atStart => exact ⟨m - 2, by omega, Lib.hid rfl, by rw [← HM.out]⟩
        case round =>
          obtain ⟨e, he, hc, rfl⟩ := hrel
          by_cases h0 : 0 < e
          · have d0 : decide (0 < (e : Int)) = true := decide_eq_true (by omega)
            obtain ⟨e, rfl⟩ : ∃ z, e = z + 1 := ⟨e - 1, by omega⟩
            have hk1 : (((e + 1 : Nat) : Int) - 1) = (e : Int) := by omega
            have hx : e + 1 < s.size := by omega
            by_cases h1 : bb s (e + 1) = 32
            · have e1 : (bb s (e + 1) == 32) = true := beq_iff_eq.2 h1
              by_cases h2 : bb s e = 32
              · have e2 : (bb s e != 32) = false := by simp [h2]
                have HN := Lib.hid (hc.out.trans (ctE_no (fun hh => hh.2 h2)))
                clear h1 h2
                go_wp2_with fail
                go_round
                case rel => exact ⟨e, by omega, HN, by go_num⟩
                case measure => first | (simp [intOf]; done) | (simp [intOf]; omega)
              · have e2 : (bb s e != 32) = true := by simp [h2]
                have HQ := Lib.hid (HS.out (e + 1) hc.out (ctE_yes h1 h2) (by omega))
                clear h1 h2
                go_wp2_with fail
                go_ret
                exact ⟨ret_st HQ.out.symm, rfl⟩
            · have e1 : (bb s (e + 1) == 32) = false := beq_eq_false_iff_ne.2 h1
              have HN := Lib.hid (hc.out.trans (ctE_no (fun hh => h1 hh.1)))
              go_wp2_with fail
              go_round
              case rel => exact ⟨e, by omega, HN, by go_num⟩
              case measure => first | (simp [intOf]; done) | (simp [intOf]; omega)
          · obtain rfl : e = 0 := by omega
            have HQ := Lib.hid (HZ.out hc.out)
            have hk2 : ((m : Int) - 2).toNat = m - 2 := by omega
            go_wp2_with fail
            go_ret
            exact ⟨ret_st HQ.out.symm, rfl⟩
    · have hi' : inB many 4 80 = false := by simpa using hi
      have HQ := Lib.hid (ctOf_no2 (s := s) hi')
      clear hi
      go_enter Try.func13, Try.ntmps13
      go_wp2_with (first | (go_at_call 10; refine (implTextValid_any _ _ (by assumption)).mono ?_; rintro e w' ⟨rfl, rfl⟩) | (go_at_call 26; refine (within_any _ _ _ _).mono ?_; rintro e w' ⟨rfl, rfl⟩))
      go_ret
      exact ⟨ret_st HQ.out.symm, rfl⟩
  · have hv' : textB s = false := by simpa using hv
    have HQ := Lib.hid (ctOf_no1 (many := many) hv')
    clear hv
    go_enter Try.func13, Try.ntmps13
    go_wp2_with (first | (go_at_call 10; refine (implTextValid_any _ _ (by assumption)).mono ?_; rintro e w' ⟨rfl, rfl⟩) | (go_at_call 26; refine (within_any _ _ _ _).mono ?_; rintro e w' ⟨rfl, rfl⟩))
    go_ret
    exact ⟨ret_st HQ.out.symm, rfl⟩
set_option maxHeartbeats 800000 in
theorem specCutText_any (s : ByteArray) (many : Int) (w : World) (hs : s.size ≤ maxLen) : Calls Try.prog 14 #[.string s, .int .i64 many] w fun e w' => e = .returned (.string (ctOf s many)) ∧ w = w' := by
  have hbb := bb_eq s
  by_cases hv : textB s = true
  · by_cases hi : inB many 4 80 = true
    · have h80 := (Text.of hv).1
      obtain ⟨hm4, hm80⟩ : 4 ≤ many ∧ many ≤ 80 := by unfold inB at hi; simpa using hi
      obtain ⟨m, rfl⟩ := Int.eq_ofNat_of_zero_le (by omega : 0 ≤ many)
      by_cases hl : s.size ≤ m
      · have dl : decide ((s.size : Int) ≤ (m : Int)) = true := decide_eq_true (by omega)
        have HQ := Lib.hid (ctOf_all hv hi (by omega))
        go_enter Try.func14, Try.ntmps14
        go_wp2_with (first | (go_at_call 23; refine (specTextValid_any _ _ (by assumption)).mono ?_; rintro e w' ⟨rfl, rfl⟩) | (go_at_call 27; refine (l1In_any _ _ _ _).mono ?_; rintro e w' ⟨rfl, rfl⟩))
        go_ret
        exact ⟨ret_st HQ.out.symm, rfl⟩
      · have dl : decide ((s.size : Int) ≤ (m : Int)) = false := decide_eq_false (by omega)
        have HC := Lib.hid (ctOf_cut hv hi (by omega))
        have HS : Hid (∀ e, ctE s (m - 2) = ctE s e → ctE s e = e → 0 < e → ctOf s (m : Int) = s.extract 0 e ++ dots) := Lib.hid (fun e h1 h2 h3 => by rw [HC.out, ctAt_at (h1.trans h2) h3])
        have HZ : Hid (ctE s (m - 2) = 0 → ctOf s (m : Int) = s.extract 0 (m - 2) ++ dots) := Lib.hid (fun h => by rw [HC.out, ctAt_zero h])
        have hm2 : (m : Int) - 2 = ((m - 2 : Nat) : Int) := by omega
        have HM := Lib.hid hm2
        clear hm2
        go_enter Try.func14, Try.ntmps14
        go_wp2_with (first | (go_at_call 23; refine (specTextValid_any _ _ (by assumption)).mono ?_; rintro e w' ⟨rfl, rfl⟩) | (go_at_call 27; refine (l1In_any _ _ _ _).mono ?_; rintro e w' ⟨rfl, rfl⟩))
        clear hv hi
        go_loop [5] (fun i => ∃ e : Nat, e + 2 ≤ m ∧ Hid (ctE s (m - 2) = ctE s e) ∧ i = .int .i64 e) (fun i => (intOf i).toNat)
        case atStart => exact ⟨m - 2, by omega, Lib.hid rfl, by rw [← HM.out]⟩
        case round =>
          obtain ⟨e, he, hc, rfl⟩ := hrel
          by_cases h0 : 0 < e ∧ bb s e ≠ 32
          · obtain ⟨h0, h1⟩ := h0
            obtain ⟨e, rfl⟩ : ∃ z, e = z + 1 := ⟨e - 1, by omega⟩
            have d0 : decide (0 < ((e + 1 : Nat) : Int)) = true := decide_eq_true (by omega)
            have hk1 : (((e + 1 : Nat) : Int) - 1) = (e : Int) := by omega
            have hx : e + 1 < s.size := by omega
            have e1 : (bb s (e + 1) != 32) = true := by simp [h1]
            have HN := Lib.hid (hc.out.trans (ctE_no (fun hh => h1 hh.1)))
            clear h1
            go_wp2_with fail
            go_round
            case rel => exact ⟨e, by omega, HN, by go_num⟩
            case measure => first | (simp [intOf]; done) | (simp [intOf]; omega)
          · have HE : Hid (e = 0 ∨ bb s e = 32) := Lib.hid (by
              rcases Nat.eq_zero_or_pos e with q | q
              · exact .inl q
              · right
                apply Decidable.byContradiction
                intro hn
                exact h0 ⟨q, hn⟩)
            clear h0
            have hx : e < s.size := by omega
            have HC2 := hc
            by_cases h0 : 0 < e
            · have d0 : decide (0 < (e : Int)) = true := decide_eq_true (by omega)
              have e1 : (bb s e != 32) = false := by have := HE.out; simp; omega
              go_wp2_with fail
              clear hc
              go_loop [5] (fun i => ∃ e : Nat, e + 2 ≤ m ∧ Hid (ctE s (m - 2) = ctE s e) ∧ Hid (e = 0 ∨ bb s e = 32) ∧ i = .int .i64 e) (fun i => (intOf i).toNat)
              case atStart => exact ⟨_, he, HC2, Lib.hid (by first | exact HE.out | exact .inl rfl), rfl⟩
              case round =>
                obtain ⟨e, he, hc, HE, rfl⟩ := hrel
                by_cases h0 : 0 < e
                · obtain ⟨e, rfl⟩ : ∃ z, e = z + 1 := ⟨e - 1, by omega⟩
                  have d0 : decide (0 < ((e + 1 : Nat) : Int)) = true := decide_eq_true (by omega)
                  have hk1 : (((e + 1 : Nat) : Int) - 1) = (e : Int) := by omega
                  have hz0 : (((e + 1 : Nat) : Int) == 0) = false := beq_eq_false_iff_ne.2 (by omega)
                  have hx : e + 1 < s.size := by omega
                  by_cases h1 : bb s e = 32
                  · have e1 : (bb s e == 32) = true := beq_iff_eq.2 h1
                    have HN := Lib.hid (hc.out.trans (ctE_no (fun hh => hh.2 h1)))
                    have HE2 : Hid (e = 0 ∨ bb s e = 32) := Lib.hid (.inr h1)
                    clear h1
                    go_wp2_with fail
                    go_round
                    case rel => exact ⟨e, by omega, HN, HE2, by go_num⟩
                    case measure => first | (simp [intOf]; done) | (simp [intOf]; omega)
                  · have e1 : (bb s e == 32) = false := beq_eq_false_iff_ne.2 h1
                    have HQ := Lib.hid (HS.out (e + 1) hc.out (ctE_yes (by have := HE.out; omega) h1) (by omega))
                    clear h1
                    go_wp2_with fail
                    go_ret
                    exact ⟨ret_st HQ.out.symm, rfl⟩
                · obtain rfl : e = 0 := by omega
                  have HQ := Lib.hid (HZ.out hc.out)
                  have hk2 : ((m : Int) - 2).toNat = m - 2 := by omega
                  go_wp2_with fail
                  go_ret
                  exact ⟨ret_st HQ.out.symm, rfl⟩
            · obtain rfl : e = 0 := by omega
              go_wp2_with fail
              clear hc
              go_loop [5] (fun i => ∃ e : Nat, e + 2 ≤ m ∧ Hid (ctE s (m - 2) = ctE s e) ∧ Hid (e = 0 ∨ bb s e = 32) ∧ i = .int .i64 e) (fun i => (intOf i).toNat)
              case atStart => exact ⟨_, he, HC2, Lib.hid (by first | exact HE.out | exact .inl rfl), rfl⟩
              case round =>
                obtain ⟨e, he, hc, HE, rfl⟩ := hrel
                by_cases h0 : 0 < e
                · obtain ⟨e, rfl⟩ : ∃ z, e = z + 1 := ⟨e - 1, by omega⟩
                  have d0 : decide (0 < ((e + 1 : Nat) : Int)) = true := decide_eq_true (by omega)
                  have hk1 : (((e + 1 : Nat) : Int) - 1) = (e : Int) := by omega
                  have hz0 : (((e + 1 : Nat) : Int) == 0) = false := beq_eq_false_iff_ne.2 (by omega)
                  have hx : e + 1 < s.size := by omega
                  by_cases h1 : bb s e = 32
                  · have e1 : (bb s e == 32) = true := beq_iff_eq.2 h1
                    have HN := Lib.hid (hc.out.trans (ctE_no (fun hh => hh.2 h1)))
                    have HE2 : Hid (e = 0 ∨ bb s e = 32) := Lib.hid (.inr h1)
                    clear h1
                    go_wp2_with fail
                    go_round
                    case rel => exact ⟨e, by omega, HN, HE2, by go_num⟩
                    case measure => first | (simp [intOf]; done) | (simp [intOf]; omega)
                  · have e1 : (bb s e == 32) = false := beq_eq_false_iff_ne.2 h1
                    have HQ := Lib.hid (HS.out (e + 1) hc.out (ctE_yes (by have := HE.out; omega) h1) (by omega))
                    clear h1
                    go_wp2_with fail
                    go_ret
                    exact ⟨ret_st HQ.out.symm, rfl⟩
                · obtain rfl : e = 0 := by omega
                  have HQ := Lib.hid (HZ.out hc.out)
                  have hk2 : ((m : Int) - 2).toNat = m - 2 := by omega
                  go_wp2_with fail
                  go_ret
                  exact ⟨ret_st HQ.out.symm, rfl⟩
    · have hi' : inB many 4 80 = false := by simpa using hi
      have HQ := Lib.hid (ctOf_no2 (s := s) hi')
      clear hi
      go_enter Try.func14, Try.ntmps14
      go_wp2_with (first | (go_at_call 23; refine (specTextValid_any _ _ (by assumption)).mono ?_; rintro e w' ⟨rfl, rfl⟩) | (go_at_call 27; refine (l1In_any _ _ _ _).mono ?_; rintro e w' ⟨rfl, rfl⟩))
      go_ret
      exact ⟨ret_st HQ.out.symm, rfl⟩
  · have hv' : textB s = false := by simpa using hv
    have HQ := Lib.hid (ctOf_no1 (many := many) hv')
    clear hv
    go_enter Try.func14, Try.ntmps14
    go_wp2_with (first | (go_at_call 23; refine (specTextValid_any _ _ (by assumption)).mono ?_; rintro e w' ⟨rfl, rfl⟩) | (go_at_call 27; refine (l1In_any _ _ _ _).mono ?_; rintro e w' ⟨rfl, rfl⟩))
    go_ret
    exact ⟨ret_st HQ.out.symm, rfl⟩
end Go.Proofs.Ytnmgfpphihieiaa
