import Derived.Test.YtfnmlffpnmmcdaaTextPlain
namespace Go.Proofs.Ytfnmlffpnmmcdaa
open Go.RowKit
set_option maxHeartbeats 400000 in
theorem implTextValid_any (s : ByteArray) (w : World) (hs : s.size ≤ maxLen) : Calls Try.prog 50 #[.string s] w fun e w' => e = .returned (.bool (textB s)) ∧ w = w' := by
  unfold maxLen at hs
  have hbb := bb_eq s
  by_cases h1 : 80 < s.size
  · have HR := Lib.hid (textB_long h1)
    have hd1 : decide (80 < (s.size : Int)) = true := decide_eq_true (by omega)
    go_enter Try.func50, Try.ntmps50
    go_wp2_with fail
    go_ret
    exact ⟨ret_bool HR.out.symm, rfl⟩
  · have hd1 : decide (80 < (s.size : Int)) = false := decide_eq_false (by omega)
    go_enter Try.func50, Try.ntmps50
    go_wp2_with fail
    go_loop [3] (fun i => ∃ k : Nat, k ≤ s.size ∧ Hid (tokTo s k) ∧ i = .int .i64 k) (fun i => s.size - (intOf i).toNat)
    case atStart => exact ⟨0, Nat.zero_le _, Lib.hid tokTo_zero, rfl⟩
    case round =>
      obtain ⟨k, hk, hok, rfl⟩ := hrel
      by_cases hlt : k < s.size
      · by_cases h3 : bb s k < 32
        · have d3 : decide (bb s k < 32) = true := decide_eq_true h3
          have HQ := Lib.hid (textB_bad hlt (by omega))
          go_wp2_with fail
          go_ret
          exact ⟨ret_bool HQ.out.symm, rfl⟩
        · have d3 : decide (bb s k < 32) = false := decide_eq_false h3
          by_cases h4 : 126 < bb s k
          · have d4 : decide (126 < bb s k) = true := decide_eq_true h4
            have HQ := Lib.hid (textB_bad hlt (by omega))
            go_wp2_with fail
            go_ret
            exact ⟨ret_bool HQ.out.symm, rfl⟩
          · have d4 : decide (126 < bb s k) = false := decide_eq_false h4
            have HN := Lib.hid (tokTo_succ hok.out (by omega))
            go_wp2_with fail
            go_round
            case rel => exact ⟨k + 1, by omega, HN, by go_num⟩
            case measure => simp [intOf]; omega
      · obtain rfl : k = s.size := by omega
        go_wp2_with fail
        go_ret
        exact ⟨ret_bool (textB_true ⟨by omega, hok.out⟩).symm, rfl⟩
set_option maxHeartbeats 400000 in
theorem specTextValid_any (s : ByteArray) (w : World) (hs : s.size ≤ maxLen) : Calls Try.prog 52 #[.string s] w fun e w' => e = .returned (.bool (textB s)) ∧ w = w' := by
  unfold maxLen at hs
  have hbb := bb_eq s
  go_enter Try.func52, Try.ntmps52
  go_wp2_with fail
  go_loop [3] (fun i => ∃ k : Nat, k ≤ s.size ∧ Hid (tokTo s k) ∧ i = .int .i64 k) (fun i => s.size - (intOf i).toNat)
  case atStart => exact ⟨0, Nat.zero_le _, Lib.hid tokTo_zero, rfl⟩
  case round =>
    obtain ⟨k, hk, hok, rfl⟩ := hrel
    by_cases hlt : k < s.size
    · by_cases h3 : bb s k < 32
      · have d3 : decide (bb s k < 32) = true := decide_eq_true h3
        have HQ := Lib.hid (textB_bad hlt (by omega))
        go_wp2_with fail
        go_ret
        exact ⟨ret_bool HQ.out.symm, rfl⟩
      · have d3 : decide (bb s k < 32) = false := decide_eq_false h3
        by_cases h4 : 126 < bb s k
        · have d4 : decide (126 < bb s k) = true := decide_eq_true h4
          have HQ := Lib.hid (textB_bad hlt (by omega))
          go_wp2_with fail
          go_ret
          exact ⟨ret_bool HQ.out.symm, rfl⟩
        · have d4 : decide (126 < bb s k) = false := decide_eq_false h4
          have HN := Lib.hid (tokTo_succ hok.out (by omega))
          go_wp2_with fail
          go_round
          case rel => exact ⟨k + 1, by omega, HN, by go_num⟩
          case measure => simp [intOf]; omega
    · obtain rfl : k = s.size := by omega
      go_wp2_with fail
      go_ret
      exact ⟨ret_bool (textB_all hok.out), rfl⟩
end Go.Proofs.Ytfnmlffpnmmcdaa
