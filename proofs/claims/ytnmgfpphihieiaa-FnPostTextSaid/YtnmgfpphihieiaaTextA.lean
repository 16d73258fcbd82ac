import Derived.Test.YtnmgfpphihieiaaTextV
import Derived.Test.YtnmgfpphihieiaaRange
namespace Go.Proofs.Ytnmgfpphihieiaa
open Go.RowKit
set_option maxHeartbeats 800000 in
theorem implFirstSentence_any (s : ByteArray) (w : World) (hs : s.size ≤ maxLen) : Calls Try.prog 8 #[.string s] w fun e w' => e = .returned (.string (fsOf s)) ∧ w = w' := by
  have hbb := bb_eq s
  by_cases hv : textB s = true
  · have h80 := (Text.of hv).1
    have HV := Lib.hid hv
    go_enter Try.func8, Try.ntmps8
    go_wp2_with (go_at_call 10; refine (implTextValid_any _ _ (by assumption)).mono ?_; rintro e w' ⟨rfl, rfl⟩)
    clear hv
    go_loop [3] (fun i => ∃ k : Nat, k ≤ s.size ∧ Hid (∀ j, j < k → fsB s j = false) ∧ i = .int .i64 k) (fun i => s.size - (intOf i).toNat)
    case atStart => exact ⟨0, Nat.zero_le _, Lib.hid (fun j hj => absurd hj (by omega)), rfl⟩
    case round =>
      obtain ⟨k, hk, hno, rfl⟩ := hrel
      by_cases hlt : k + 1 < s.size
      · have dl : decide ((k : Int) + 1 < (s.size : Int)) = true := decide_eq_true (by omega)
        have hk1 : ((k : Int) + 1).toNat = k + 1 := by omega
        by_cases h1 : bb s k = 46
        · have e1 : (bb s k == 46) = true := beq_iff_eq.2 h1
          by_cases hsp : bb s (k + 1) = 32
          · have e4 : (bb s (k + 1) == 32) = true := beq_iff_eq.2 hsp
            have HQ := Lib.hid (show fsOf s = s.extract 0 (k + 1) by rw [fsOf_yes HV.out, fsLen_at hno.out (fsB_true ⟨hlt, by omega, hsp⟩)])
            go_wp2_with fail
            go_ret
            exact ⟨ret_st HQ.out.symm, rfl⟩
          · have e4 : (bb s (k + 1) == 32) = false := beq_eq_false_iff_ne.2 hsp
            have HN : Hid (∀ j, j < k + 1 → fsB s j = false) := Lib.hid (fun j hj => by
              rcases Nat.lt_succ_iff_lt_or_eq.1 hj with h1 | rfl
              · exact hno.out j h1
              · exact fsB_false (fun hh => by have h2 := hh.2.1; have h3 := hh.2.2; omega))
            go_wp2_with fail
            go_round
            case rel => exact ⟨k + 1, by omega, HN, by go_num⟩
            case measure => first | (simp [intOf]; done) | (simp [intOf]; omega)
        · have e1 : (bb s k == 46) = false := beq_eq_false_iff_ne.2 h1
          by_cases h2 : bb s k = 33
          · have e2 : (bb s k == 33) = true := beq_iff_eq.2 h2
            by_cases hsp : bb s (k + 1) = 32
            · have e4 : (bb s (k + 1) == 32) = true := beq_iff_eq.2 hsp
              have HQ := Lib.hid (show fsOf s = s.extract 0 (k + 1) by rw [fsOf_yes HV.out, fsLen_at hno.out (fsB_true ⟨hlt, by omega, hsp⟩)])
              go_wp2_with fail
              go_ret
              exact ⟨ret_st HQ.out.symm, rfl⟩
            · have e4 : (bb s (k + 1) == 32) = false := beq_eq_false_iff_ne.2 hsp
              have HN : Hid (∀ j, j < k + 1 → fsB s j = false) := Lib.hid (fun j hj => by
                rcases Nat.lt_succ_iff_lt_or_eq.1 hj with h1 | rfl
                · exact hno.out j h1
                · exact fsB_false (fun hh => by have h2 := hh.2.1; have h3 := hh.2.2; omega))
              go_wp2_with fail
              go_round
              case rel => exact ⟨k + 1, by omega, HN, by go_num⟩
              case measure => first | (simp [intOf]; done) | (simp [intOf]; omega)
          · have e2 : (bb s k == 33) = false := beq_eq_false_iff_ne.2 h2
            by_cases h3 : bb s k = 63
            · have e3 : (bb s k == 63) = true := beq_iff_eq.2 h3
              by_cases hsp : bb s (k + 1) = 32
              · have e4 : (bb s (k + 1) == 32) = true := beq_iff_eq.2 hsp
                have HQ := Lib.hid (show fsOf s = s.extract 0 (k + 1) by rw [fsOf_yes HV.out, fsLen_at hno.out (fsB_true ⟨hlt, by omega, hsp⟩)])
                go_wp2_with fail
                go_ret
                exact ⟨ret_st HQ.out.symm, rfl⟩
              · have e4 : (bb s (k + 1) == 32) = false := beq_eq_false_iff_ne.2 hsp
                have HN : Hid (∀ j, j < k + 1 → fsB s j = false) := Lib.hid (fun j hj => by
                  rcases Nat.lt_succ_iff_lt_or_eq.1 hj with h1 | rfl
                  · exact hno.out j h1
                  · exact fsB_false (fun hh => by have h2 := hh.2.1; have h3 := hh.2.2; omega))
                go_wp2_with fail
                go_round
                case rel => exact ⟨k + 1, by omega, HN, by go_num⟩
                case measure => first | (simp [intOf]; done) | (simp [intOf]; omega)
            · have e3 : (bb s k == 63) = false := beq_eq_false_iff_ne.2 h3
              have HN : Hid (∀ j, j < k + 1 → fsB s j = false) := Lib.hid (fun j hj => by
                rcases Nat.lt_succ_iff_lt_or_eq.1 hj with h1 | rfl
                · exact hno.out j h1
                · exact fsB_false (fun hh => by have h2 := hh.2.1; have h3 := hh.2.2; omega))
              go_wp2_with fail
              go_round
              case rel => exact ⟨k + 1, by omega, HN, by go_num⟩
              case measure => first | (simp [intOf]; done) | (simp [intOf]; omega)
      · have dl : decide ((k : Int) + 1 < (s.size : Int)) = false := decide_eq_false (by omega)
        have HQ := Lib.hid (show fsOf s = s from fsOf_all HV.out (fun j hj => by
          by_cases hjk : j < k
          · exact hno.out j hjk
          · exact fsB_false (fun hh => by have := hh.1; omega)))
        go_wp2_with fail
        go_ret
        exact ⟨ret_st HQ.out.symm, rfl⟩
  · have hv' : textB s = false := by simpa using hv
    have HQ := Lib.hid (fsOf_no hv')
    clear hv
    go_enter Try.func8, Try.ntmps8
    go_wp2_with (go_at_call 10; refine (implTextValid_any _ _ (by assumption)).mono ?_; rintro e w' ⟨rfl, rfl⟩)
    go_ret
    exact ⟨ret_st HQ.out.symm, rfl⟩
set_option maxHeartbeats 800000 in
theorem specFirstSentence_any (s : ByteArray) (w : World) (hs : s.size ≤ maxLen) : Calls Try.prog 9 #[.string s] w fun e w' => e = .returned (.string (fsOf s)) ∧ w = w' := by
  have hbb := bb_eq s
  by_cases hv : textB s = true
  · have h80 := (Text.of hv).1
    have HV := Lib.hid hv
    go_enter Try.func9, Try.ntmps9
    go_wp2_with (go_at_call 23; refine (specTextValid_any _ _ (by assumption)).mono ?_; rintro e w' ⟨rfl, rfl⟩)
    clear hv
    go_loop [3] (fun i => ∃ k : Nat, k ≤ s.size ∧ Hid (∀ j, j < k → fsB s j = false) ∧ i = .int .i64 k) (fun i => s.size - (intOf i).toNat)
    case atStart => exact ⟨0, Nat.zero_le _, Lib.hid (fun j hj => absurd hj (by omega)), rfl⟩
    case round =>
      obtain ⟨k, hk, hno, rfl⟩ := hrel
      by_cases hlt : k + 1 < s.size
      · have dl : decide ((k : Int) + 1 < (s.size : Int)) = true := decide_eq_true (by omega)
        have hk1 : ((k : Int) + 1).toNat = k + 1 := by omega
        by_cases h1 : bb s k = 46
        · have e1 : (bb s k == 46) = true := beq_iff_eq.2 h1
          by_cases hsp : bb s (k + 1) = 32
          · have e4 : (bb s (k + 1) == 32) = true := beq_iff_eq.2 hsp
            have HQ := Lib.hid (show fsOf s = s.extract 0 (k + 1) by rw [fsOf_yes HV.out, fsLen_at hno.out (fsB_true ⟨hlt, by omega, hsp⟩)])
            go_wp2_with fail
            go_ret
            exact ⟨ret_st HQ.out.symm, rfl⟩
          · have e4 : (bb s (k + 1) == 32) = false := beq_eq_false_iff_ne.2 hsp
            have HN : Hid (∀ j, j < k + 1 → fsB s j = false) := Lib.hid (fun j hj => by
              rcases Nat.lt_succ_iff_lt_or_eq.1 hj with h1 | rfl
              · exact hno.out j h1
              · exact fsB_false (fun hh => by have h2 := hh.2.1; have h3 := hh.2.2; omega))
            go_wp2_with fail
            go_round
            case rel => exact ⟨k + 1, by omega, HN, by go_num⟩
            case measure => first | (simp [intOf]; done) | (simp [intOf]; omega)
        · have e1 : (bb s k == 46) = false := beq_eq_false_iff_ne.2 h1
          by_cases h2 : bb s k = 33
          · have e2 : (bb s k == 33) = true := beq_iff_eq.2 h2
            by_cases hsp : bb s (k + 1) = 32
            · have e4 : (bb s (k + 1) == 32) = true := beq_iff_eq.2 hsp
              have HQ := Lib.hid (show fsOf s = s.extract 0 (k + 1) by rw [fsOf_yes HV.out, fsLen_at hno.out (fsB_true ⟨hlt, by omega, hsp⟩)])
              go_wp2_with fail
              go_ret
              exact ⟨ret_st HQ.out.symm, rfl⟩
            · have e4 : (bb s (k + 1) == 32) = false := beq_eq_false_iff_ne.2 hsp
              have HN : Hid (∀ j, j < k + 1 → fsB s j = false) := Lib.hid (fun j hj => by
                rcases Nat.lt_succ_iff_lt_or_eq.1 hj with h1 | rfl
                · exact hno.out j h1
                · exact fsB_false (fun hh => by have h2 := hh.2.1; have h3 := hh.2.2; omega))
              go_wp2_with fail
              go_round
              case rel => exact ⟨k + 1, by omega, HN, by go_num⟩
              case measure => first | (simp [intOf]; done) | (simp [intOf]; omega)
          · have e2 : (bb s k == 33) = false := beq_eq_false_iff_ne.2 h2
            by_cases h3 : bb s k = 63
            · have e3 : (bb s k == 63) = true := beq_iff_eq.2 h3
              by_cases hsp : bb s (k + 1) = 32
              · have e4 : (bb s (k + 1) == 32) = true := beq_iff_eq.2 hsp
                have HQ := Lib.hid (show fsOf s = s.extract 0 (k + 1) by rw [fsOf_yes HV.out, fsLen_at hno.out (fsB_true ⟨hlt, by omega, hsp⟩)])
                go_wp2_with fail
                go_ret
                exact ⟨ret_st HQ.out.symm, rfl⟩
              · have e4 : (bb s (k + 1) == 32) = false := beq_eq_false_iff_ne.2 hsp
                have HN : Hid (∀ j, j < k + 1 → fsB s j = false) := Lib.hid (fun j hj => by
                  rcases Nat.lt_succ_iff_lt_or_eq.1 hj with h1 | rfl
                  · exact hno.out j h1
                  · exact fsB_false (fun hh => by have h2 := hh.2.1; have h3 := hh.2.2; omega))
                go_wp2_with fail
                go_round
                case rel => exact ⟨k + 1, by omega, HN, by go_num⟩
                case measure => first | (simp [intOf]; done) | (simp [intOf]; omega)
            · have e3 : (bb s k == 63) = false := beq_eq_false_iff_ne.2 h3
              have HN : Hid (∀ j, j < k + 1 → fsB s j = false) := Lib.hid (fun j hj => by
                rcases Nat.lt_succ_iff_lt_or_eq.1 hj with h1 | rfl
                · exact hno.out j h1
                · exact fsB_false (fun hh => by have h2 := hh.2.1; have h3 := hh.2.2; omega))
              go_wp2_with fail
              go_round
              case rel => exact ⟨k + 1, by omega, HN, by go_num⟩
              case measure => first | (simp [intOf]; done) | (simp [intOf]; omega)
      · have dl : decide ((k : Int) + 1 < (s.size : Int)) = false := decide_eq_false (by omega)
        have HQ := Lib.hid (show fsOf s = s from fsOf_all HV.out (fun j hj => by
          by_cases hjk : j < k
          · exact hno.out j hjk
          · exact fsB_false (fun hh => by have := hh.1; omega)))
        go_wp2_with fail
        go_ret
        exact ⟨ret_st HQ.out.symm, rfl⟩
  · have hv' : textB s = false := by simpa using hv
    have HQ := Lib.hid (fsOf_no hv')
    clear hv
    go_enter Try.func9, Try.ntmps9
    go_wp2_with (go_at_call 23; refine (specTextValid_any _ _ (by assumption)).mono ?_; rintro e w' ⟨rfl, rfl⟩)
    go_ret
    exact ⟨ret_st HQ.out.symm, rfl⟩
end Go.Proofs.Ytnmgfpphihieiaa
