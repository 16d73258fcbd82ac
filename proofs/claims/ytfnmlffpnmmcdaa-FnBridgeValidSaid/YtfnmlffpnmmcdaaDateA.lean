/- Dates: days before a year, months. -/
import Derived.Test.YtfnmlffpnmmcdaaRange
namespace Go.Proofs.Ytfnmlffpnmmcdaa
open Go.RowKit
/-- Days before a year. -/
def dB (y : Int) : Int := 365 * (y - 1) + (y - 1) / 4 - (y - 1) / 100 + (y - 1) / 400
def leapB (y : Int) : Bool := decide (y % 400 = 0) || (decide (y % 4 = 0) && !decide (y % 100 = 0))
/-- A month's days. -/
def mdOf (y m : Int) : Int := if m = 2 then (if leapB y = true then 29 else 28) else if m = 4 ∨ m = 6 ∨ m = 9 ∨ m = 11 then 30 else 31
/-- The days from a month on: of n months that end with the last. -/
def restM (y : Int) : Nat → Int
  | 0 => 0
  | n + 1 => mdOf y (12 - n) + restM y n
theorem restM_succ (y : Int) (n : Nat) : restM y (n + 1) = mdOf y (12 - n) + restM y n := rfl
/-- The days of the first n months. -/
def cumM (y : Int) : Nat → Int
  | 0 => 0
  | n + 1 => cumM y n + mdOf y (n + 1)
theorem cumM_succ (y : Int) (n : Nat) : cumM y (n + 1) = cumM y n + mdOf y (n + 1) := rfl
theorem mdOf_bounds (y m : Int) : 28 ≤ mdOf y m ∧ mdOf y m ≤ 31 := by
  unfold mdOf
  split
  · split <;> omega
  · split <;> omega
theorem restM_full (y : Int) : restM y 12 = if leapB y = true then 366 else 365 := by
  simp only [restM, mdOf]
  cases leapB y <;> simp
theorem dB_succ {y : Int} : dB (y + 1) = dB y + restM y 12 := by
  rw [restM_full]
  unfold dB leapB
  by_cases a : y % 400 = 0
  · simp only [a, decide_true, Bool.true_or, if_true]; omega
  · by_cases b : y % 4 = 0
    · by_cases c : y % 100 = 0
      · simp only [a, b, c, decide_true, decide_false, Bool.false_or, Bool.not_true, Bool.and_false, Bool.false_eq_true, if_false]; omega
      · simp only [a, b, c, decide_true, decide_false, Bool.false_or, Bool.not_false, Bool.and_true, if_true]; omega
    · simp only [a, b, decide_false, Bool.false_or, Bool.false_and, Bool.false_eq_true, if_false]; omega
theorem dB_le {y : Int} (h : 1 ≤ y) : dB y ≤ 366 * (y - 1) := by unfold dB; omega
theorem dB_ge {y : Int} (h : 1 ≤ y) : 365 * (y - 1) ≤ dB y := by unfold dB; omega
theorem dB_last : dB 4001 = 1460970 := by decide
theorem daysBefore_any (y : Int) (w : World) (h1 : 1 ≤ y) (h2 : y ≤ 4001) : Calls Try.prog 56 #[.int .i64 y] w fun e w' => e = .returned (.int .i64 (dB y)) ∧ w = w' := by
  go_enter Try.func56, Try.ntmps56
  go_wp2
  go_ret
  exact ⟨rfl, rfl⟩
theorem implLeapYear_any (y : Int) (w : World) (h1 : 1 ≤ y) (h2 : y ≤ 4000) : Calls Try.prog 60 #[.int .i64 y] w fun e w' => e = .returned (.bool (leapB y)) ∧ w = w' := by
  have hw := inB_true (lo := 1) (hi := 4000) h1 h2
  go_enter Try.func60, Try.ntmps60
  go_wp2_with fail
  refine (within_any _ _ _ w).mono ?_
  rintro e w' ⟨rfl, rfl⟩
  rw [hw]
  by_cases a : y % 400 = 0
  · by_cases b : y % 4 = 0
    · by_cases c : y % 100 = 0
      · have a1 : (y % 400 == 0) = true := beq_iff_eq.2 a
        have b1 : (y % 4 == 0) = true := beq_iff_eq.2 b
        have c1 : (y % 100 != 0) = false := by simp [c]
        have HL : Hid (leapB y = true) := Lib.hid (by simp [leapB, a, b, c])
        clear a b c
        go_wp2
        go_ret
        exact ⟨ret_bool (by simp [HL.out, *]), rfl⟩
      · omega
    · omega
  · have a1 : (y % 400 == 0) = false := beq_eq_false_iff_ne.2 a
    by_cases b : y % 4 = 0
    · have b1 : (y % 4 == 0) = true := beq_iff_eq.2 b
      by_cases c : y % 100 = 0
      · have c1 : (y % 100 != 0) = false := by simp [c]
        have HL : Hid (leapB y = false) := Lib.hid (by simp [leapB, a, b, c])
        clear a b c
        go_wp2
        go_ret
        exact ⟨ret_bool (by simp [HL.out, *]), rfl⟩
      · have c1 : (y % 100 != 0) = true := by simp [c]
        have HL : Hid (leapB y = true) := Lib.hid (by simp [leapB, a, b, c])
        clear a b c
        go_wp2
        go_ret
        exact ⟨ret_bool (by simp [HL.out, *]), rfl⟩
    · have b1 : (y % 4 == 0) = false := beq_eq_false_iff_ne.2 b
      have HL : Hid (leapB y = false) := Lib.hid (by simp [leapB, a, b])
      clear a b
      go_wp2
      go_ret
      exact ⟨ret_bool (by simp [HL.out, *]), rfl⟩
theorem implMonthDays_any (y m : Int) (w : World) (h1 : 1 ≤ y) (h2 : y ≤ 4000) (h3 : 1 ≤ m) (h4 : m ≤ 12) : Calls Try.prog 57 #[.int .i64 y, .int .i64 m] w fun e w' => e = .returned (.int .i64 (mdOf y m)) ∧ w = w' := by
  have hw := inB_true (lo := 1) (hi := 4000) h1 h2
  have HW := Lib.hid hw
  clear hw
  rcases (by omega : m = 1 ∨ m = 2 ∨ m = 3 ∨ m = 4 ∨ m = 5 ∨ m = 6 ∨ m = 7 ∨ m = 8 ∨ m = 9 ∨ m = 10 ∨ m = 11 ∨ m = 12) with rfl | rfl | rfl | rfl | rfl | rfl | rfl | rfl | rfl | rfl | rfl | rfl
  · go_enter Try.func57, Try.ntmps57
    go_wp2_with fail
    refine (within_any _ _ _ w).mono ?_
    rintro e w' ⟨rfl, rfl⟩
    rw [HW.out]
    go_wp2_with fail
    refine (within_any _ _ _ w).mono ?_
    rintro e w' ⟨rfl, rfl⟩
    rw [show inB 1 1 12 = true from rfl]
    go_wp2_with fail
    go_ret
    exact ⟨rfl, rfl⟩
  · go_enter Try.func57, Try.ntmps57
    go_wp2_with fail
    refine (within_any _ _ _ w).mono ?_
    rintro e w' ⟨rfl, rfl⟩
    rw [HW.out]
    go_wp2_with fail
    refine (within_any _ _ _ w).mono ?_
    rintro e w' ⟨rfl, rfl⟩
    rw [show inB 2 1 12 = true from rfl]
    cases hl : leapB y
    · have HM : Hid (mdOf y 2 = 28) := Lib.hid (by simp [mdOf, hl])
      have HL := Lib.hid hl
      clear hl
      go_wp2_with fail
      refine (implLeapYear_any y w h1 h2).mono ?_
      rintro e w' ⟨rfl, rfl⟩
      rw [HL.out]
      go_wp2_with fail
      go_ret
      rw [HM.out]
      exact ⟨rfl, rfl⟩
    · have HM : Hid (mdOf y 2 = 29) := Lib.hid (by simp [mdOf, hl])
      have HL := Lib.hid hl
      clear hl
      go_wp2_with fail
      refine (implLeapYear_any y w h1 h2).mono ?_
      rintro e w' ⟨rfl, rfl⟩
      rw [HL.out]
      go_wp2_with fail
      go_ret
      rw [HM.out]
      exact ⟨rfl, rfl⟩
  · go_enter Try.func57, Try.ntmps57
    go_wp2_with fail
    refine (within_any _ _ _ w).mono ?_
    rintro e w' ⟨rfl, rfl⟩
    rw [HW.out]
    go_wp2_with fail
    refine (within_any _ _ _ w).mono ?_
    rintro e w' ⟨rfl, rfl⟩
    rw [show inB 3 1 12 = true from rfl]
    go_wp2_with fail
    go_ret
    exact ⟨rfl, rfl⟩
  · go_enter Try.func57, Try.ntmps57
    go_wp2_with fail
    refine (within_any _ _ _ w).mono ?_
    rintro e w' ⟨rfl, rfl⟩
    rw [HW.out]
    go_wp2_with fail
    refine (within_any _ _ _ w).mono ?_
    rintro e w' ⟨rfl, rfl⟩
    rw [show inB 4 1 12 = true from rfl]
    go_wp2_with fail
    go_ret
    exact ⟨rfl, rfl⟩
  · go_enter Try.func57, Try.ntmps57
    go_wp2_with fail
    refine (within_any _ _ _ w).mono ?_
    rintro e w' ⟨rfl, rfl⟩
    rw [HW.out]
    go_wp2_with fail
    refine (within_any _ _ _ w).mono ?_
    rintro e w' ⟨rfl, rfl⟩
    rw [show inB 5 1 12 = true from rfl]
    go_wp2_with fail
    go_ret
    exact ⟨rfl, rfl⟩
  · go_enter Try.func57, Try.ntmps57
    go_wp2_with fail
    refine (within_any _ _ _ w).mono ?_
    rintro e w' ⟨rfl, rfl⟩
    rw [HW.out]
    go_wp2_with fail
    refine (within_any _ _ _ w).mono ?_
    rintro e w' ⟨rfl, rfl⟩
    rw [show inB 6 1 12 = true from rfl]
    go_wp2_with fail
    go_ret
    exact ⟨rfl, rfl⟩
  · go_enter Try.func57, Try.ntmps57
    go_wp2_with fail
    refine (within_any _ _ _ w).mono ?_
    rintro e w' ⟨rfl, rfl⟩
    rw [HW.out]
    go_wp2_with fail
    refine (within_any _ _ _ w).mono ?_
    rintro e w' ⟨rfl, rfl⟩
    rw [show inB 7 1 12 = true from rfl]
    go_wp2_with fail
    go_ret
    exact ⟨rfl, rfl⟩
  · go_enter Try.func57, Try.ntmps57
    go_wp2_with fail
    refine (within_any _ _ _ w).mono ?_
    rintro e w' ⟨rfl, rfl⟩
    rw [HW.out]
    go_wp2_with fail
    refine (within_any _ _ _ w).mono ?_
    rintro e w' ⟨rfl, rfl⟩
    rw [show inB 8 1 12 = true from rfl]
    go_wp2_with fail
    go_ret
    exact ⟨rfl, rfl⟩
  · go_enter Try.func57, Try.ntmps57
    go_wp2_with fail
    refine (within_any _ _ _ w).mono ?_
    rintro e w' ⟨rfl, rfl⟩
    rw [HW.out]
    go_wp2_with fail
    refine (within_any _ _ _ w).mono ?_
    rintro e w' ⟨rfl, rfl⟩
    rw [show inB 9 1 12 = true from rfl]
    go_wp2_with fail
    go_ret
    exact ⟨rfl, rfl⟩
  · go_enter Try.func57, Try.ntmps57
    go_wp2_with fail
    refine (within_any _ _ _ w).mono ?_
    rintro e w' ⟨rfl, rfl⟩
    rw [HW.out]
    go_wp2_with fail
    refine (within_any _ _ _ w).mono ?_
    rintro e w' ⟨rfl, rfl⟩
    rw [show inB 10 1 12 = true from rfl]
    go_wp2_with fail
    go_ret
    exact ⟨rfl, rfl⟩
  · go_enter Try.func57, Try.ntmps57
    go_wp2_with fail
    refine (within_any _ _ _ w).mono ?_
    rintro e w' ⟨rfl, rfl⟩
    rw [HW.out]
    go_wp2_with fail
    refine (within_any _ _ _ w).mono ?_
    rintro e w' ⟨rfl, rfl⟩
    rw [show inB 11 1 12 = true from rfl]
    go_wp2_with fail
    go_ret
    exact ⟨rfl, rfl⟩
  · go_enter Try.func57, Try.ntmps57
    go_wp2_with fail
    refine (within_any _ _ _ w).mono ?_
    rintro e w' ⟨rfl, rfl⟩
    rw [HW.out]
    go_wp2_with fail
    refine (within_any _ _ _ w).mono ?_
    rintro e w' ⟨rfl, rfl⟩
    rw [show inB 12 1 12 = true from rfl]
    go_wp2_with fail
    go_ret
    exact ⟨rfl, rfl⟩
end Go.Proofs.Ytfnmlffpnmmcdaa
