/- Dates: the reference. -/
import Derived.Test.YtfnmlffpnmmcdaaDateA
namespace Go.Proofs.Ytfnmlffpnmmcdaa
open Go.RowKit
theorem specLeapYear_any (y : Int) (w : World) (h1 : 1 ≤ y) (h2 : y ≤ 4000) : Calls Try.prog 62 #[.int .i64 y] w fun e w' => e = .returned (.bool (leapB y)) ∧ w = w' := by
  have hw := inB_true (lo := 1) (hi := 4000) h1 h2
  go_enter Try.func62, Try.ntmps62
  go_wp2_with fail
  refine (l1In_any _ _ _ w).mono ?_
  rintro e w' ⟨rfl, rfl⟩
  rw [hw]
  by_cases a : y % 400 = 0
  · by_cases b : y % 4 = 0
    · by_cases c : y % 100 = 0
      · have a1 : (y % 400 == 0) = true := beq_iff_eq.2 a
        have b1 : (y % 4 == 0) = true := beq_iff_eq.2 b
        have c1 : (y % 100 != 0) = false := by simp [c]
        have HL : Hid (leapB y = true) := Lib.hid (by simp [leapB, a, b, c])
        clear a b c
        go_wp2
        go_ret
        exact ⟨ret_bool (by simp [HL.out, *]), rfl⟩
      · omega
    · omega
  · have a1 : (y % 400 == 0) = false := beq_eq_false_iff_ne.2 a
    by_cases b : y % 4 = 0
    · have b1 : (y % 4 == 0) = true := beq_iff_eq.2 b
      by_cases c : y % 100 = 0
      · have c1 : (y % 100 != 0) = false := by simp [c]
        have HL : Hid (leapB y = false) := Lib.hid (by simp [leapB, a, b, c])
        clear a b c
        go_wp2
        go_ret
        exact ⟨ret_bool (by simp [HL.out, *]), rfl⟩
      · have c1 : (y % 100 != 0) = true := by simp [c]
        have HL : Hid (leapB y = true) := Lib.hid (by simp [leapB, a, b, c])
        clear a b c
        go_wp2
        go_ret
        exact ⟨ret_bool (by simp [HL.out, *]), rfl⟩
    · have b1 : (y % 4 == 0) = false := beq_eq_false_iff_ne.2 b
      have HL : Hid (leapB y = false) := Lib.hid (by simp [leapB, a, b])
      clear a b
      go_wp2
      go_ret
      exact ⟨ret_bool (by simp [HL.out, *]), rfl⟩
end Go.Proofs.Ytfnmlffpnmmcdaa
