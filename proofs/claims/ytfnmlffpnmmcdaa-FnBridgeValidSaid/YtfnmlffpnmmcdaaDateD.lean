/- Dates: impl.DateText. -/
import Derived.Test.YtfnmlffpnmmcdaaDateC
namespace Go.Proofs.Ytfnmlffpnmmcdaa
open Go.RowKit
/-- The date's text is a day's. -/
def dayB (d : Int) : Bool := decide (0 ≤ d) && decide (d < 1460970)
theorem dayB_yes {d : Int} (h0 : 0 ≤ d) (h1 : d < 1460970) : dayB d = true := by simp [dayB, h0, h1]
theorem dayB_no {d : Int} (h : d < 0 ∨ 1460970 ≤ d) : dayB d = false := by simp [dayB]; omega
/-- A text of a day: ten bytes, or none. -/
def IsDay (d : Int) (s : ByteArray) : Prop := s.size = if dayB d = true then 10 else 0
theorem restM_pos {y r : Int} {n : Nat} (h0 : 0 ≤ r) (h : r < restM y n) : 1 ≤ n := by
  cases n with
  | zero => simp [restM] at h; omega
  | succ n => omega
set_option maxHeartbeats 800000 in
theorem implDateText_any (d : Int) (w : World) : Calls Try.prog 51 #[.int .i64 d] w fun e w' => (∃ s : ByteArray, e = .returned (.string s) ∧ IsDay d s) ∧ Below w.heap.size w w' := by
  have HLA := Lib.hid dB_last
  by_cases h0 : d < 0
  · have hd0 : decide (d < 0) = true := decide_eq_true h0
    have HN := Lib.hid (dayB_no (.inl h0))
    go_enter Try.func51, Try.ntmps51
    go_wp2_with fail
    go_ret
    exact ⟨⟨_, rfl, by unfold IsDay; rw [HN.out]; rfl⟩, Below.refl _ _⟩
  · have hd0 : decide (d < 0) = false := decide_eq_false h0
    by_cases h1 : d < 1460970
    · have hd1 : decide (1460970 ≤ d) = false := decide_eq_false (by omega)
      have HY := Lib.hid (dayB_yes (by omega) h1)
      go_enter Try.func51, Try.ntmps51
      go_wp2_with fail
      refine (daysBefore_any 4001 w (by omega) (by omega)).mono ?_
      rintro e w' ⟨rfl, rfl⟩
      rw [HLA.out]
      go_wp2_with fail
      go_loopw [3] (fun i wr => ∃ y : Int, 1 ≤ y ∧ y ≤ 4000 ∧ dB y ≤ d ∧ i = .int .i64 y ∧ w = wr) (fun i _ => (4001 - intOf i).toNat)
      case atStart => exact ⟨d / 366 + 1, by omega, by omega, by have := dB_le (y := d / 366 + 1) (by omega); omega, rfl, rfl⟩
      case round =>
        obtain ⟨y, hy1, hy2, hyd, rfl, rfl⟩ := hrel
        go_wp2_with fail
        refine (daysBefore_any (y + 1) w (by omega) (by omega)).mono ?_
        rintro e w' ⟨rfl, rfl⟩
        by_cases hc : dB (y + 1) ≤ d
        · have hc0 : decide (dB (y + 1) ≤ d) = true := decide_eq_true hc
          have hy3 : y < 4000 := by
            rcases Int.lt_or_le y 4000 with q | q
            · exact q
            · exfalso
              have e : y = 4000 := by omega
              subst e
              have := HLA.out
              simp only [show (4000 : Int) + 1 = 4001 from rfl] at hc
              omega
          go_wp2_with fail
          go_roundw
          case rel => exact ⟨y + 1, by omega, by omega, hc, by first | rfl | trivial, by first | rfl | trivial⟩
          case measure => simp [intOf]; omega
        · have hc0 : decide (dB (y + 1) ≤ d) = false := decide_eq_false hc
          have hr : d - dB y < restM y 12 := by have := dB_succ (y := y); omega
          have hge := dB_ge hy1
          go_wp2_with fail
          refine (daysBefore_any y w hy1 (by omega)).mono ?_
          rintro e w' ⟨rfl, rfl⟩
          have hr0 : 0 ≤ d - dB y := by omega
          have hrb : d - dB y ≤ 1460970 := by omega
          clear hc hc0
          go_wp2_with fail
          clear hyd hge
          generalize d - dB y = r0 at *
          go_loopw [4, 5] (fun rv i wr => ∃ (r : Int) (n : Nat), n ≤ 12 ∧ 0 ≤ r ∧ r ≤ 1460970 ∧ r < restM y n ∧ rv = .int .i64 r ∧ i = .int .i64 (13 - (n : Int)) ∧ w = wr) (fun _ i _ => (13 - intOf i).toNat)
          case atStart => exact ⟨r0, 12, by omega, hr0, hrb, hr, rfl, rfl, rfl⟩
          case round =>
            clear hr hr0 hrb
            obtain ⟨r, n, hn, hr0, hrb, hr, rfl, rfl, rfl⟩ := hrel
            have hn1 := restM_pos hr0 hr
            obtain ⟨n, rfl⟩ : ∃ k, n = k + 1 := ⟨n - 1, by omega⟩
            rw [restM_succ] at hr
            have hmb := mdOf_bounds y (12 - n)
            rw [show (13 : Int) - ((n + 1 : Nat) : Int) = 12 - (n : Int) by omega]
            go_wp2_with fail
            refine (implMonthDays_any y (12 - n) w hy1 hy2 (by omega) (by omega)).mono ?_
            rintro e w' ⟨rfl, rfl⟩
            by_cases hc : mdOf y (12 - n) ≤ r
            · have hc0 : decide (mdOf y (12 - n) ≤ r) = true := decide_eq_true hc
              go_wp2_with fail
              refine (implMonthDays_any y (12 - n) w hy1 hy2 (by omega) (by omega)).mono ?_
              rintro e w' ⟨rfl, rfl⟩
              go_wp2_with fail
              go_roundw
              case rel => exact ⟨r - mdOf y (12 - n), n, by omega, by omega, by omega, by omega, by first | go_num | trivial, by first | go_num | trivial, by first | rfl | trivial⟩
              case measure => simp [intOf]; omega
            · have hc0 : decide (mdOf y (12 - n) ≤ r) = false := decide_eq_false hc
              obtain ⟨yn, rfl⟩ := Int.eq_ofNat_of_zero_le (show 0 ≤ y by omega)
              obtain ⟨m, hm⟩ := Int.eq_ofNat_of_zero_le (show 0 ≤ 12 - (n : Int) by omega)
              obtain ⟨rn, hrn⟩ := Int.eq_ofNat_of_zero_le (show 0 ≤ r + 1 by omega)
              rw [hm] at hc0 ⊢
              have s1 := padS_size yn 4
              have s2 := padS_size m 2
              have s3 := padS_size rn 2
              go_wp2_with fail
              refine (padded_any yn 4 w (by omega) (by omega) (by omega)).mono ?_
              rintro e w1 ⟨rfl, hb1⟩
              go_wp2_with fail
              refine (padded_any m 2 w1 (by omega) (by omega) (by omega)).mono ?_
              rintro e w2 ⟨rfl, hb2⟩
              have hbb := hb1.trans (hb2.mono hb1.size)
              go_wp2_with fail
              refine (padded_any rn 2 w2 (by omega) (by omega) (by omega)).mono ?_
              rintro e w3 ⟨rfl, hb3⟩
              go_wp2_with fail
              go_ret
              exact ⟨⟨_, rfl, by unfold IsDay; rw [HY.out]; simp only [ByteArray.size_append, s1, s2, s3]; rfl⟩, hbb.trans (hb3.mono hbb.size)⟩
    · have hd1 : decide (1460970 ≤ d) = true := decide_eq_true (by omega)
      have HN := Lib.hid (dayB_no (.inr (by omega : 1460970 ≤ d)))
      go_enter Try.func51, Try.ntmps51
      go_wp2_with fail
      refine (daysBefore_any 4001 w (by omega) (by omega)).mono ?_
      rintro e w' ⟨rfl, rfl⟩
      rw [HLA.out]
      go_wp2_with fail
      go_ret
      exact ⟨⟨_, rfl, by unfold IsDay; rw [HN.out]; rfl⟩, Below.refl _ _⟩
end Go.Proofs.Ytfnmlffpnmmcdaa
