import Derived.Test.YtfnmlffpnmmcdaaWords
import Derived.Test.YtfnmlffpnmmcdaaRange
namespace Go.Proofs.Ytfnmlffpnmmcdaa
open Go.RowKit
/-- The first k bytes as spec.WordValid asks for them. -/
def wokS (s : ByteArray) (k : Nat) : Prop := ∀ j, j < k → (97 ≤ bb s j ∧ bb s j ≤ 122) ∨ (0 < j ∧ 48 ≤ bb s j ∧ bb s j ≤ 57)
theorem wokS_succ {s : ByteArray} {k : Nat} (h : wokS s k) (h1 : (97 ≤ bb s k ∧ bb s k ≤ 122) ∨ (0 < k ∧ 48 ≤ bb s k ∧ bb s k ≤ 57)) : wokS s (k + 1) := by
  intro j hj
  rcases Nat.lt_succ_iff_lt_or_eq.1 hj with h' | rfl
  · exact h j h'
  · exact h1
theorem wokS_all {s : ByteArray} (h : wokS s s.size) : inB (s.size : Int) 1 8 = wordB s := by
  by_cases h1 : 1 ≤ s.size
  · by_cases h2 : s.size ≤ 8
    · rw [inB_true (by omega) (by omega), wordB_true]
      have h0 := h 0 (by omega)
      exact ⟨h1, h2, by omega, by omega, fun j hj => by
        rcases h j hj with h3 | h3
        · exact .inr h3
        · exact .inl h3.2⟩
    · rw [inB_false (by omega), wordB_size (by omega)]
  · rw [inB_false (by omega), wordB_size (by omega)]
theorem wokS_bad {s : ByteArray} {k : Nat} (hk : k < s.size) (h : ¬ ((97 ≤ bb s k ∧ bb s k ≤ 122) ∨ (0 < k ∧ 48 ≤ bb s k ∧ bb s k ≤ 57))) : wordB s = false := decide_eq_false fun hw => by
  have h1 := hw.2.2.2.2 k hk
  unfold wok at h1
  have h2 := hw.2.2.1
  have h3 := hw.2.2.2.1
  rcases Nat.eq_zero_or_pos k with h0 | h0
  · rw [h0] at h; omega
  · omega
set_option maxHeartbeats 800000 in
theorem specWordValid_any (s : ByteArray) (w : World) (hs : s.size ≤ maxLen) : Calls Try.prog 40 #[.string s] w fun e w' => e = .returned (.bool (wordB s)) ∧ w = w' := by
  unfold maxLen at hs
  have hbb := bb_eq s
  go_enter Try.func40, Try.ntmps40
  go_wp2_with fail
  go_loop [3] (fun i => ∃ k : Nat, k ≤ s.size ∧ Hid (wokS s k) ∧ i = .int .i64 k) (fun i => s.size - (intOf i).toNat)
  case atStart => exact ⟨0, Nat.zero_le _, Lib.hid (fun j hj => absurd hj (by omega)), rfl⟩
  case round =>
    obtain ⟨k, hk, hok, rfl⟩ := hrel
    by_cases hlt : k < s.size
    · have hr := bb_rng s k
      by_cases ha : 97 ≤ bb s k
      · have d1 : decide (97 ≤ bb s k) = true := decide_eq_true (by omega)
        by_cases hz : bb s k ≤ 122
        · have d2 : decide (bb s k ≤ 122) = true := decide_eq_true (by omega)
          have HN := Lib.hid (wokS_succ hok.out (by omega))
          go_wp2_with fail
          go_round
          case rel => exact ⟨k + 1, by omega, HN, by go_num⟩
          case measure => simp [intOf]; omega
        · have d2 : decide (bb s k ≤ 122) = false := decide_eq_false (by omega)
          by_cases h0 : k = 0
          · have e0 : ((k : Int) == 0) = true := by simp; omega
            have HQ := Lib.hid (wokS_bad hlt (by omega))
            clear h0
            go_wp2_with fail
            go_ret
            exact ⟨ret_bool HQ.out.symm, rfl⟩
          · have e0 : ((k : Int) == 0) = false := by simp; omega
            have d3 : decide (bb s k < 48) = false := decide_eq_false (by omega)
            have d4 : decide (57 < bb s k) = true := decide_eq_true (by omega)
            have HQ := Lib.hid (wokS_bad hlt (by omega))
            go_wp2_with fail
            go_ret
            exact ⟨ret_bool HQ.out.symm, rfl⟩
      · have d1 : decide (97 ≤ bb s k) = false := decide_eq_false (by omega)
        by_cases h0 : k = 0
        · have e0 : ((k : Int) == 0) = true := by simp; omega
          have HQ := Lib.hid (wokS_bad hlt (by omega))
          clear h0
          go_wp2_with fail
          go_ret
          exact ⟨ret_bool HQ.out.symm, rfl⟩
        · have e0 : ((k : Int) == 0) = false := by simp; omega
          by_cases h3 : bb s k < 48
          · have d3 : decide (bb s k < 48) = true := decide_eq_true (by omega)
            have HQ := Lib.hid (wokS_bad hlt (by omega))
            go_wp2_with fail
            go_ret
            exact ⟨ret_bool HQ.out.symm, rfl⟩
          · have d3 : decide (bb s k < 48) = false := decide_eq_false (by omega)
            by_cases h4 : 57 < bb s k
            · have d4 : decide (57 < bb s k) = true := decide_eq_true (by omega)
              have HQ := Lib.hid (wokS_bad hlt (by omega))
              go_wp2_with fail
              go_ret
              exact ⟨ret_bool HQ.out.symm, rfl⟩
            · have d4 : decide (57 < bb s k) = false := decide_eq_false (by omega)
              have HN := Lib.hid (wokS_succ hok.out (by omega))
              go_wp2_with fail
              go_round
              case rel => exact ⟨k + 1, by omega, HN, by go_num⟩
              case measure => simp [intOf]; omega
    · obtain rfl : k = s.size := by omega
      go_wp2_with (go_at_call 21; refine (l1In_any _ _ _ _).mono ?_; rintro e w' ⟨rfl, rfl⟩)
      go_ret
      exact ⟨ret_bool (wokS_all hok.out), rfl⟩
end Go.Proofs.Ytfnmlffpnmmcdaa
