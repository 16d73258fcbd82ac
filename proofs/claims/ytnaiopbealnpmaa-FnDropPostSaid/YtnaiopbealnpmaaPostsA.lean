import Derived.Test.YtnaiopbealnpmaaBase
import Derived.Test.YtnaiopbealnpmaaPostsPlain
namespace Go.Proofs.Ytnaiopbealnpmaa
open Go.RowKit PP
/-- Is n in lo..hi? -/
def inB (n lo hi : Int) : Bool := decide (lo ≤ n) && decide (n ≤ hi)
theorem inB_true {n lo hi : Int} (h1 : lo ≤ n) (h2 : n ≤ hi) : inB n lo hi = true := by simp [inB, h1, h2]
theorem inB_false {n lo hi : Int} (h : n < lo ∨ hi < n) : inB n lo hi = false := by simp [inB]; omega
theorem within_any (n lo hi : Int) (w : World) : Calls Try.prog 35 #[.int .i64 n, .int .i64 lo, .int .i64 hi] w fun e w' => e = .returned (.bool (inB n lo hi)) ∧ w = w' := by
  go_enter Try.func35, Try.ntmps35
  go_wp2
  all_goals (go_ret; exact ⟨ret_bool (by simp [inB, *] <;> omega), rfl⟩)
theorem l1In_any (n lo hi : Int) (w : World) : Calls Try.prog 34 #[.int .i64 n, .int .i64 lo, .int .i64 hi] w fun e w' => e = .returned (.bool (inB n lo hi)) ∧ w = w' := by
  go_enter Try.func34, Try.ntmps34
  go_wp2
  all_goals (go_ret; exact ⟨ret_bool (by simp [inB, *] <;> omega), rfl⟩)

theorem okTo_in {xs : List Int} {k : Nat} (h : okTo xs k) (hi : inB (at_ xs k) (-1) ((k : Int) - 1) = true) : okTo xs (k + 1) := by
  simp only [inB, Bool.and_eq_true, decide_eq_true_eq] at hi; exact okTo_succ h hi.1 hi.2
theorem pvB_not {xs : List Int} {k : Nat} (hk : k < xs.length) (hi : inB (at_ xs k) (-1) ((k : Int) - 1) = false) : pvB xs = false :=
  pvB_bad hk (by simp only [inB, Bool.and_eq_false_iff, decide_eq_false_iff_not] at hi; omega)
theorem pvB_all {xs : List Int} (h : okTo xs xs.length) : decide ((xs.length : Int) ≤ 16) = pvB xs := by
  refine decide_eq_decide.2 ?_; exact ⟨fun hh => ⟨by omega, h⟩, fun hh => by have := hh.1; omega⟩
theorem specPostsValid_any (A : Option Addr) (cap B : Nat) (xs : List Int) (w : World) (h : RdI w B A xs) (hl : xs.length ≤ 140737488351232) :
    Calls Try.prog 13 #[.slice A xs.length cap] w fun e w' => e = .returned (.bool (pvB xs)) ∧ w = w' := by
  go_enter Try.func13, Try.ntmps13
  go_wp2
  go_loop [3] (fun i => ∃ k : Nat, k ≤ xs.length ∧ okTo xs k ∧ i = .int .i64 k) (fun i => xs.length - (intOf i).toNat)
  case atStart => exact ⟨0, Nat.zero_le _, fun j hj => absurd hj (by omega), rfl⟩
  case round =>
    obtain ⟨k, hk, hok, rfl⟩ := hrel
    have HO := Lib.hid hok; clear hok
    by_cases hlt : k < xs.length
    · obtain ⟨b, off, rfl, hb, hc⟩ := h.at_ (by omega)
      have hck := hc k hlt
      have HC := Lib.hid hc; clear hc
      by_cases hin : inB (at_ xs k) (-1) ((k : Int) - 1) = true
      · go_wp2_with (go_at_call 34; refine (l1In_any _ _ _ _).mono ?_; rintro e w' ⟨rfl, rfl⟩)
        go_round
        case rel => exact ⟨k + 1, by omega, okTo_in HO.out hin, by go_num⟩
        case measure => simp [intOf]; omega
      · have hin' : inB (at_ xs k) (-1) ((k : Int) - 1) = false := by simpa using hin
        clear hin
        go_wp2_with (go_at_call 34; refine (l1In_any _ _ _ _).mono ?_; rintro e w' ⟨rfl, rfl⟩)
        go_ret
        exact ⟨ret_bool (pvB_not hlt hin').symm, rfl⟩
    · obtain rfl : k = xs.length := by omega
      go_wp2
      go_ret
      exact ⟨ret_bool (pvB_all HO.out), rfl⟩
theorem implPostsValid_any (A : Option Addr) (cap B : Nat) (xs : List Int) (w : World) (h : RdI w B A xs) (hl : xs.length ≤ 140737488351232) :
    Calls Try.prog 15 #[.slice A xs.length cap] w fun e w' => e = .returned (.bool (pvB xs)) ∧ w = w' := by
  by_cases hlen : xs.length ≤ 16
  · have hd : decide (16 < (xs.length : Int)) = false := by simp; omega
    go_enter Try.func15, Try.ntmps15
    go_wp2
    go_loop [10] (fun i => ∃ k : Nat, k ≤ xs.length ∧ okTo xs k ∧ i = .int .i64 k) (fun i => xs.length - (intOf i).toNat)
    case atStart => exact ⟨0, Nat.zero_le _, fun j hj => absurd hj (by omega), rfl⟩
    case round =>
      obtain ⟨k, hk, hok, rfl⟩ := hrel
      have HO := Lib.hid hok; clear hok
      by_cases hlt : k < xs.length
      · obtain ⟨b, off, rfl, hb, hc⟩ := h.at_ (by omega)
        have hck := hc k hlt
        have HC := Lib.hid hc; clear hc
        by_cases hin : inB (at_ xs k) (-1) ((k : Int) - 1) = true
        · go_wp2_with (go_at_call 35; refine (within_any _ _ _ _).mono ?_; rintro e w' ⟨rfl, rfl⟩)
          go_round
          case rel => exact ⟨k + 1, by omega, okTo_in HO.out hin, by go_num⟩
          case measure => simp [intOf]; omega
        · have hin' : inB (at_ xs k) (-1) ((k : Int) - 1) = false := by simpa using hin
          clear hin
          go_wp2_with (go_at_call 35; refine (within_any _ _ _ _).mono ?_; rintro e w' ⟨rfl, rfl⟩)
          go_ret
          exact ⟨ret_bool (pvB_not hlt hin').symm, rfl⟩
      · obtain rfl : k = xs.length := by omega
        go_wp2
        go_ret
        exact ⟨ret_bool (pvB_true HO.out hlen).symm, rfl⟩
  · have hd : decide (16 < (xs.length : Int)) = true := by simp; omega
    go_enter Try.func15, Try.ntmps15
    go_wp2
    go_ret
    exact ⟨ret_bool (pvB_long (by omega)).symm, rfl⟩
end Go.Proofs.Ytnaiopbealnpmaa
