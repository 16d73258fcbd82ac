/- Dates: the reference months and days. -/
import Derived.Test.YtfnmlffpnmmcdaaDateB
import Derived.Test.YtfnmlffpnmmcdaaOwn
namespace Go.Proofs.Ytfnmlffpnmmcdaa
open Go.RowKit
set_option maxHeartbeats 3200000 in
theorem specMonthDays_any (y m : Int) (w : World) (h1 : 1 ≤ y) (h2 : y ≤ 4000) (h3 : 1 ≤ m) (h4 : m ≤ 12) : Calls Try.prog 61 #[.int .i64 y, .int .i64 m] w fun e w' => e = .returned (.int .i64 (mdOf y m)) ∧ Below w.heap.size w w' := by
  have hw := inB_true (lo := 1) (hi := 4000) h1 h2
  have HW := Lib.hid hw
  clear hw
  rcases (by omega : m = 1 ∨ m = 2 ∨ m = 3 ∨ m = 4 ∨ m = 5 ∨ m = 6 ∨ m = 7 ∨ m = 8 ∨ m = 9 ∨ m = 10 ∨ m = 11 ∨ m = 12) with rfl | rfl | rfl | rfl | rfl | rfl | rfl | rfl | rfl | rfl | rfl | rfl
  · have hc : (w.alloc (.cells #[.int .i64 31, .int .i64 28, .int .i64 31, .int .i64 30, .int .i64 31, .int .i64 30, .int .i64 31, .int .i64 31, .int .i64 30, .int .i64 31, .int .i64 30, .int .i64 31] 3)).cell? ⟨w.heap.size, 0, none⟩ = some (.int .i64 31) := by rw [World.cell?_alloc_at _ _ _ _ rfl]; rfl
    go_enter Try.func61, Try.ntmps61
    go_wp2_with fail
    refine (l1In_any _ _ _ w).mono ?_
    rintro e w' ⟨rfl, rfl⟩
    rw [HW.out]
    go_wp2_with fail
    refine (l1In_any _ _ _ w).mono ?_
    rintro e w' ⟨rfl, rfl⟩
    rw [show inB 1 1 12 = true from rfl]
    go_wp2_with fail
    go_ret
    exact ⟨rfl, (Below.refl _ _).alloc (Nat.le_refl _) _⟩
  · cases hl : leapB y
    · have HM : Hid (mdOf y 2 = 28) := Lib.hid (by simp [mdOf, hl])
      have HL := Lib.hid hl
      clear hl
      have hc : (w.alloc (.cells #[.int .i64 31, .int .i64 28, .int .i64 31, .int .i64 30, .int .i64 31, .int .i64 30, .int .i64 31, .int .i64 31, .int .i64 30, .int .i64 31, .int .i64 30, .int .i64 31] 3)).cell? ⟨w.heap.size, 1, none⟩ = some (.int .i64 28) := by rw [World.cell?_alloc_at _ _ _ _ rfl]; rfl
      go_enter Try.func61, Try.ntmps61
      go_wp2_with fail
      refine (l1In_any _ _ _ w).mono ?_
      rintro e w' ⟨rfl, rfl⟩
      rw [HW.out]
      go_wp2_with fail
      refine (l1In_any _ _ _ w).mono ?_
      rintro e w' ⟨rfl, rfl⟩
      rw [show inB 2 1 12 = true from rfl]
      go_wp2_with fail
      refine (specLeapYear_any y w h1 h2).mono ?_
      rintro e w' ⟨rfl, rfl⟩
      rw [HL.out]
      go_wp2_with fail
      go_ret
      rw [HM.out]
      exact ⟨rfl, (Below.refl _ _).alloc (Nat.le_refl _) _⟩
    · have HM : Hid (mdOf y 2 = 29) := Lib.hid (by simp [mdOf, hl])
      have HL := Lib.hid hl
      clear hl
      go_enter Try.func61, Try.ntmps61
      go_wp2_with fail
      refine (l1In_any _ _ _ w).mono ?_
      rintro e w' ⟨rfl, rfl⟩
      rw [HW.out]
      go_wp2_with fail
      refine (l1In_any _ _ _ w).mono ?_
      rintro e w' ⟨rfl, rfl⟩
      rw [show inB 2 1 12 = true from rfl]
      go_wp2_with fail
      refine (specLeapYear_any y w h1 h2).mono ?_
      rintro e w' ⟨rfl, rfl⟩
      rw [HL.out]
      go_wp2_with fail
      go_ret
      rw [HM.out]
      exact ⟨rfl, Below.refl _ _⟩
  · have hc : (w.alloc (.cells #[.int .i64 31, .int .i64 28, .int .i64 31, .int .i64 30, .int .i64 31, .int .i64 30, .int .i64 31, .int .i64 31, .int .i64 30, .int .i64 31, .int .i64 30, .int .i64 31] 3)).cell? ⟨w.heap.size, 2, none⟩ = some (.int .i64 31) := by rw [World.cell?_alloc_at _ _ _ _ rfl]; rfl
    go_enter Try.func61, Try.ntmps61
    go_wp2_with fail
    refine (l1In_any _ _ _ w).mono ?_
    rintro e w' ⟨rfl, rfl⟩
    rw [HW.out]
    go_wp2_with fail
    refine (l1In_any _ _ _ w).mono ?_
    rintro e w' ⟨rfl, rfl⟩
    rw [show inB 3 1 12 = true from rfl]
    go_wp2_with fail
    go_ret
    exact ⟨rfl, (Below.refl _ _).alloc (Nat.le_refl _) _⟩
  · have hc : (w.alloc (.cells #[.int .i64 31, .int .i64 28, .int .i64 31, .int .i64 30, .int .i64 31, .int .i64 30, .int .i64 31, .int .i64 31, .int .i64 30, .int .i64 31, .int .i64 30, .int .i64 31] 3)).cell? ⟨w.heap.size, 3, none⟩ = some (.int .i64 30) := by rw [World.cell?_alloc_at _ _ _ _ rfl]; rfl
    go_enter Try.func61, Try.ntmps61
    go_wp2_with fail
    refine (l1In_any _ _ _ w).mono ?_
    rintro e w' ⟨rfl, rfl⟩
    rw [HW.out]
    go_wp2_with fail
    refine (l1In_any _ _ _ w).mono ?_
    rintro e w' ⟨rfl, rfl⟩
    rw [show inB 4 1 12 = true from rfl]
    go_wp2_with fail
    go_ret
    exact ⟨rfl, (Below.refl _ _).alloc (Nat.le_refl _) _⟩
  · have hc : (w.alloc (.cells #[.int .i64 31, .int .i64 28, .int .i64 31, .int .i64 30, .int .i64 31, .int .i64 30, .int .i64 31, .int .i64 31, .int .i64 30, .int .i64 31, .int .i64 30, .int .i64 31] 3)).cell? ⟨w.heap.size, 4, none⟩ = some (.int .i64 31) := by rw [World.cell?_alloc_at _ _ _ _ rfl]; rfl
    go_enter Try.func61, Try.ntmps61
    go_wp2_with fail
    refine (l1In_any _ _ _ w).mono ?_
    rintro e w' ⟨rfl, rfl⟩
    rw [HW.out]
    go_wp2_with fail
    refine (l1In_any _ _ _ w).mono ?_
    rintro e w' ⟨rfl, rfl⟩
    rw [show inB 5 1 12 = true from rfl]
    go_wp2_with fail
    go_ret
    exact ⟨rfl, (Below.refl _ _).alloc (Nat.le_refl _) _⟩
  · have hc : (w.alloc (.cells #[.int .i64 31, .int .i64 28, .int .i64 31, .int .i64 30, .int .i64 31, .int .i64 30, .int .i64 31, .int .i64 31, .int .i64 30, .int .i64 31, .int .i64 30, .int .i64 31] 3)).cell? ⟨w.heap.size, 5, none⟩ = some (.int .i64 30) := by rw [World.cell?_alloc_at _ _ _ _ rfl]; rfl
    go_enter Try.func61, Try.ntmps61
    go_wp2_with fail
    refine (l1In_any _ _ _ w).mono ?_
    rintro e w' ⟨rfl, rfl⟩
    rw [HW.out]
    go_wp2_with fail
    refine (l1In_any _ _ _ w).mono ?_
    rintro e w' ⟨rfl, rfl⟩
    rw [show inB 6 1 12 = true from rfl]
    go_wp2_with fail
    go_ret
    exact ⟨rfl, (Below.refl _ _).alloc (Nat.le_refl _) _⟩
  · have hc : (w.alloc (.cells #[.int .i64 31, .int .i64 28, .int .i64 31, .int .i64 30, .int .i64 31, .int .i64 30, .int .i64 31, .int .i64 31, .int .i64 30, .int .i64 31, .int .i64 30, .int .i64 31] 3)).cell? ⟨w.heap.size, 6, none⟩ = some (.int .i64 31) := by rw [World.cell?_alloc_at _ _ _ _ rfl]; rfl
    go_enter Try.func61, Try.ntmps61
    go_wp2_with fail
    refine (l1In_any _ _ _ w).mono ?_
    rintro e w' ⟨rfl, rfl⟩
    rw [HW.out]
    go_wp2_with fail
    refine (l1In_any _ _ _ w).mono ?_
    rintro e w' ⟨rfl, rfl⟩
    rw [show inB 7 1 12 = true from rfl]
    go_wp2_with fail
    go_ret
    exact ⟨rfl, (Below.refl _ _).alloc (Nat.le_refl _) _⟩
  · have hc : (w.alloc (.cells #[.int .i64 31, .int .i64 28, .int .i64 31, .int .i64 30, .int .i64 31, .int .i64 30, .int .i64 31, .int .i64 31, .int .i64 30, .int .i64 31, .int .i64 30, .int .i64 31] 3)).cell? ⟨w.heap.size, 7, none⟩ = some (.int .i64 31) := by rw [World.cell?_alloc_at _ _ _ _ rfl]; rfl
    go_enter Try.func61, Try.ntmps61
    go_wp2_with fail
    refine (l1In_any _ _ _ w).mono ?_
    rintro e w' ⟨rfl, rfl⟩
    rw [HW.out]
    go_wp2_with fail
    refine (l1In_any _ _ _ w).mono ?_
    rintro e w' ⟨rfl, rfl⟩
    rw [show inB 8 1 12 = true from rfl]
    go_wp2_with fail
    go_ret
    exact ⟨rfl, (Below.refl _ _).alloc (Nat.le_refl _) _⟩
  · have hc : (w.alloc (.cells #[.int .i64 31, .int .i64 28, .int .i64 31, .int .i64 30, .int .i64 31, .int .i64 30, .int .i64 31, .int .i64 31, .int .i64 30, .int .i64 31, .int .i64 30, .int .i64 31] 3)).cell? ⟨w.heap.size, 8, none⟩ = some (.int .i64 30) := by rw [World.cell?_alloc_at _ _ _ _ rfl]; rfl
    go_enter Try.func61, Try.ntmps61
    go_wp2_with fail
    refine (l1In_any _ _ _ w).mono ?_
    rintro e w' ⟨rfl, rfl⟩
    rw [HW.out]
    go_wp2_with fail
    refine (l1In_any _ _ _ w).mono ?_
    rintro e w' ⟨rfl, rfl⟩
    rw [show inB 9 1 12 = true from rfl]
    go_wp2_with fail
    go_ret
    exact ⟨rfl, (Below.refl _ _).alloc (Nat.le_refl _) _⟩
  · have hc : (w.alloc (.cells #[.int .i64 31, .int .i64 28, .int .i64 31, .int .i64 30, .int .i64 31, .int .i64 30, .int .i64 31, .int .i64 31, .int .i64 30, .int .i64 31, .int .i64 30, .int .i64 31] 3)).cell? ⟨w.heap.size, 9, none⟩ = some (.int .i64 31) := by rw [World.cell?_alloc_at _ _ _ _ rfl]; rfl
    go_enter Try.func61, Try.ntmps61
    go_wp2_with fail
    refine (l1In_any _ _ _ w).mono ?_
    rintro e w' ⟨rfl, rfl⟩
    rw [HW.out]
    go_wp2_with fail
    refine (l1In_any _ _ _ w).mono ?_
    rintro e w' ⟨rfl, rfl⟩
    rw [show inB 10 1 12 = true from rfl]
    go_wp2_with fail
    go_ret
    exact ⟨rfl, (Below.refl _ _).alloc (Nat.le_refl _) _⟩
  · have hc : (w.alloc (.cells #[.int .i64 31, .int .i64 28, .int .i64 31, .int .i64 30, .int .i64 31, .int .i64 30, .int .i64 31, .int .i64 31, .int .i64 30, .int .i64 31, .int .i64 30, .int .i64 31] 3)).cell? ⟨w.heap.size, 10, none⟩ = some (.int .i64 30) := by rw [World.cell?_alloc_at _ _ _ _ rfl]; rfl
    go_enter Try.func61, Try.ntmps61
    go_wp2_with fail
    refine (l1In_any _ _ _ w).mono ?_
    rintro e w' ⟨rfl, rfl⟩
    rw [HW.out]
    go_wp2_with fail
    refine (l1In_any _ _ _ w).mono ?_
    rintro e w' ⟨rfl, rfl⟩
    rw [show inB 11 1 12 = true from rfl]
    go_wp2_with fail
    go_ret
    exact ⟨rfl, (Below.refl _ _).alloc (Nat.le_refl _) _⟩
  · have hc : (w.alloc (.cells #[.int .i64 31, .int .i64 28, .int .i64 31, .int .i64 30, .int .i64 31, .int .i64 30, .int .i64 31, .int .i64 31, .int .i64 30, .int .i64 31, .int .i64 30, .int .i64 31] 3)).cell? ⟨w.heap.size, 11, none⟩ = some (.int .i64 31) := by rw [World.cell?_alloc_at _ _ _ _ rfl]; rfl
    go_enter Try.func61, Try.ntmps61
    go_wp2_with fail
    refine (l1In_any _ _ _ w).mono ?_
    rintro e w' ⟨rfl, rfl⟩
    rw [HW.out]
    go_wp2_with fail
    refine (l1In_any _ _ _ w).mono ?_
    rintro e w' ⟨rfl, rfl⟩
    rw [show inB 12 1 12 = true from rfl]
    go_wp2_with fail
    go_ret
    exact ⟨rfl, (Below.refl _ _).alloc (Nat.le_refl _) _⟩
theorem cumM_bounds (y : Int) (n : Nat) : 0 ≤ cumM y n ∧ cumM y n ≤ 31 * n := by
  induction n with
  | zero => simp [cumM]
  | succ n ih => rw [cumM_succ]; have := mdOf_bounds y (n + 1); omega
set_option maxHeartbeats 800000 in
theorem specDayNumber_any (y d : Int) (m : Nat) (w : World) (h1 : 1 ≤ y) (h2 : y ≤ 4000) (h3 : 1 ≤ m) (h4 : m ≤ 12) (h5 : 1 ≤ d) (h6 : d ≤ mdOf y m) : Calls Try.prog 59 #[.int .i64 y, .int .i64 (m : Int), .int .i64 d] w fun e w' => e = .returned (.int .i64 (dB y + d - 1 + cumM y (m - 1))) ∧ Below w.heap.size w w' := by
  have HD := Lib.hid (inB_true h5 h6)
  have hmb := mdOf_bounds y m
  have hge := dB_ge h1
  have hle := dB_le h1
  go_enter Try.func59, Try.ntmps59
  go_wp2_with fail
  refine (specMonthDays_any y m w h1 h2 (by omega) (by omega)).mono ?_
  rintro e w1 ⟨rfl, hb1⟩
  go_wp2_with fail
  refine (l1In_any _ _ _ w1).mono ?_
  rintro e w' ⟨rfl, rfl⟩
  rw [HD.out]
  have hd31 : d ≤ 31 := by omega
  clear h6
  go_wp2_with fail
  go_loopw [8, 9] (fun nv i wr => ∃ j : Nat, j + 1 ≤ m ∧ nv = .int .i64 (dB y + d - 1 + cumM y j) ∧ i = .int .i64 ((j : Int) + 1) ∧ Below w.heap.size w wr) (fun _ i _ => (12 - intOf i).toNat)
  case atStart => exact ⟨0, by omega, by simp [cumM, dB], by simp, hb1⟩
  case round =>
    obtain ⟨j, hj, rfl, rfl, hbl⟩ := hrel
    have hcb := cumM_bounds y j
    by_cases hlt : j + 1 < m
    · have hd0 : decide ((j : Int) + 1 < (m : Int)) = true := decide_eq_true (by omega)
      have hmj := mdOf_bounds y ((j : Int) + 1)
      go_wp2_with fail
      refine (specMonthDays_any y ((j : Int) + 1) wr h1 h2 (by omega) (by omega)).mono ?_
      rintro e w2 ⟨rfl, hb2⟩
      go_wp2_with fail
      go_roundw
      case rel => exact ⟨j + 1, by omega, by rw [cumM_succ]; congr 1; omega, by first | go_num | trivial, hbl.trans (hb2.mono hbl.size)⟩
      case measure => simp [intOf]; omega
    · have hd0 : decide ((j : Int) + 1 < (m : Int)) = false := decide_eq_false (by omega)
      obtain rfl : j = m - 1 := by omega
      go_wp2_with fail
      go_ret
      exact ⟨rfl, hbl⟩
end Go.Proofs.Ytfnmlffpnmmcdaa
