import Derived.Test.YtnmgfpphihieiaaDrawTexts
import Derived.Test.YtnmgfpphihieiaaTextB
namespace Go.Proofs.Ytnmgfpphihieiaa
open Go.RowKit PP
set_option maxHeartbeats 800000 in
theorem FnCutText_walk (A : Option Addr) (cap : Nat) (cs : List Int) (w : World) (h : Rd w w.heap.size 1 A cs.length (fun j => .int .u8 (at_ cs j))) (hc : cs.length ≤ cap) (_ : cap ≤ maxLen) (hwf : ∀ n ∈ cs, (Lit.int .u8 n).wf = true) :
    Calls Try.prog 4 #[.slice A cs.length cap] w fun e w' => e = .returned (.bool true) ∧ Below w.heap.size w w' := by
  by_cases hs : cs.length ≤ 1048576
  · have hd : decide (1048576 < (cs.length : Int)) = false := decide_eq_false (by omega)
    have hbyte := Lib.hid (byte_bounds hwf)
    clear hwf
    go_enter Try.func4, Try.ntmps4
    go_wp2_with fail
    refine (DrawCutText_any A cap _ cs w h (Nat.le_refl _) hbyte.out hc hs).mono ?_
    rintro e w1 ⟨s, many, rfl, hsz, hm0, hm1, hb1⟩
    have hsm : s.size ≤ maxLen := (by simp only [maxLen]; omega)
    obtain ⟨m, rfl⟩ := Int.eq_ofNat_of_zero_le hm0
    by_cases hv : textB s = true
    · by_cases hi : 4 ≤ m ∧ m ≤ 80
      · obtain ⟨h4, h80⟩ := hi
        have hin := inB_true (n := (m : Int)) (lo := 4) (hi := 80) (by omega) (by omega)
        by_cases hl : s.size ≤ m
        · have he := ctOf_all hv hin (by omega : (s.size : Int) ≤ (m : Int))
          have dl : decide ((s.size : Int) ≤ (m : Int)) = true := decide_eq_true (by omega)
          have hcall := implCutText_any s (m : Int) w1 hsm
          have hcall2 := specCutText_any s (m : Int) w1 hsm
          rw [he] at hcall hcall2
          have HC := Lib.hid hcall
          have HC2 := Lib.hid hcall2
          clear hcall hcall2
          go_wp2_with fail
          refine HC.out.mono ?_
          rintro e w' ⟨rfl, rfl⟩
          go_wp2_with fail
          refine HC2.out.mono ?_
          rintro e w' ⟨rfl, rfl⟩
          go_wp2_with (first | (go_at_call 10; refine (implTextValid_any _ _ (by simp only [maxLen]; omega)).mono ?_; rintro e w' ⟨rfl, rfl⟩) | (go_at_call 11; refine (alive_any _).mono ?_; rintro e w' ⟨rfl, rfl⟩))
          go_ret
          exact ⟨rfl, hb1⟩
        · have he := ctOf_cut hv hin (by omega : m < s.size)
          have dl : decide ((s.size : Int) ≤ (m : Int)) = false := decide_eq_false (by omega)
          have ha := ctAt_le s m
          have hp := ctAt_pos s (m := m) (by omega)
          have hX : (s.extract 0 (ctAt s m) ++ dots).size = ctAt s m + 2 := by rw [ByteArray.size_append, size_ext (by omega)]; rfl
          have hx1 : (s.extract 0 (ctAt s m) ++ dots).extract (ctAt s m) (ctAt s m + 2) = dots := by
            rw [← hX]; exact ext_right (by rw [size_ext (by omega)]; omega)
          have hx2 : (s.extract 0 (ctAt s m) ++ dots).extract 0 (ctAt s m) = s.extract 0 (ctAt s m) := ext_left (by rw [size_ext (by omega)]; omega)
          have hcall := implCutText_any s (m : Int) w1 hsm
          have hcall2 := specCutText_any s (m : Int) w1 hsm
          rw [he] at hcall hcall2
          have HC := Lib.hid hcall
          have HC2 := Lib.hid hcall2
          clear hcall hcall2
          generalize hXX : s.extract 0 (ctAt s m) ++ dots = X at *
          generalize ctAt s m = e at *
          have hne : (X.toList != X.toList) = false := by simp
          have HX := Lib.hid hX
          have hXs : X.size ≤ 80 := by omega
          have hX2 : ((X.size : Int) - 2) = (e : Int) := by omega
          have hX3 : X.size - 2 = e := by omega
          have d1 : decide ((X.size : Int) ≤ (m : Int)) = true := decide_eq_true (by omega)
          have d1n : decide (X.size ≤ m) = true := decide_eq_true (by omega)
          have d2 : decide (2 < (X.size : Int)) = true := decide_eq_true (by omega)
          have d2n : decide (2 < X.size) = true := decide_eq_true (by omega)
          have hw2 : IntKind.i64.wrap ((X.size : Int) - 2) = (e : Int) := by rw [hX2]; exact IntWalk.i64_in _ (by omega)
          have hXg : 2 ≤ X.size := by omega
          have q1 : ((X.extract e X.size).toList == [46, 46]) = true := by rw [HX.out, hx1, ByteArray.toList_eq]; rfl
          have q3 : ((X.extract e X.size).toList == ({ data := #[46, 46] } : ByteArray).toList) = true := by rw [HX.out, hx1, show dots = { data := #[46, 46] } from rfl]; simp
          have d4 : decide ((m : Int) < 4) = false := decide_eq_false (by omega)
          have d8 : decide (80 < (m : Int)) = false := decide_eq_false (by omega)
          have q2 : ((X.extract 0 e).toList == (s.extract 0 e).toList) = true := by rw [hx2]; simp
          have hes : e ≤ s.size := by omega
          have heX : e ≤ X.size := by omega
          have HXX := Lib.hid hXX
          clear hXX hX he hx1 hx2
          go_wp2_with fail
          refine HC.out.mono ?_
          rintro e w' ⟨rfl, rfl⟩
          go_wp2_with fail
          refine HC2.out.mono ?_
          rintro e w' ⟨rfl, rfl⟩
          go_wp2_with (first | (go_at_call 10; refine (implTextValid_any _ _ (by simp only [maxLen]; omega)).mono ?_; rintro e w' ⟨rfl, rfl⟩) | (go_at_call 11; refine (alive_any _).mono ?_; rintro e w' ⟨rfl, rfl⟩))
          go_quiet (fail)
          go_wp2_with fail
          go_ret
          exact ⟨rfl, below_drewN hb1 _⟩
      · have he := ctOf_no2 (s := s) (inB_false (n := (m : Int)) (lo := 4) (hi := 80) (by omega))
        have hcall := implCutText_any s (m : Int) w1 hsm
        have hcall2 := specCutText_any s (m : Int) w1 hsm
        rw [he] at hcall hcall2
        have HC := Lib.hid hcall
        have HC2 := Lib.hid hcall2
        clear hcall hcall2
        by_cases h4 : m < 4
        · have d4 : decide ((m : Int) < 4) = true := decide_eq_true (by omega)
          go_wp2_with fail
          refine HC.out.mono ?_
          rintro e w' ⟨rfl, rfl⟩
          go_wp2_with fail
          refine HC2.out.mono ?_
          rintro e w' ⟨rfl, rfl⟩
          go_wp2_with (first | (go_at_call 10; refine (implTextValid_any _ _ (by simp only [maxLen]; omega)).mono ?_; rintro e w' ⟨rfl, rfl⟩) | (go_at_call 11; refine (alive_any _).mono ?_; rintro e w' ⟨rfl, rfl⟩))
          go_ret
          exact ⟨rfl, hb1⟩
        · have d4 : decide ((m : Int) < 4) = false := decide_eq_false (by omega)
          have d8 : decide (80 < (m : Int)) = true := decide_eq_true (by omega)
          go_wp2_with fail
          refine HC.out.mono ?_
          rintro e w' ⟨rfl, rfl⟩
          go_wp2_with fail
          refine HC2.out.mono ?_
          rintro e w' ⟨rfl, rfl⟩
          go_wp2_with (first | (go_at_call 10; refine (implTextValid_any _ _ (by simp only [maxLen]; omega)).mono ?_; rintro e w' ⟨rfl, rfl⟩) | (go_at_call 11; refine (alive_any _).mono ?_; rintro e w' ⟨rfl, rfl⟩))
          go_ret
          exact ⟨rfl, hb1⟩
    · have hv' : textB s = false := by simpa using hv
      have he := ctOf_no1 (many := (m : Int)) hv'
      have hcall := implCutText_any s (m : Int) w1 hsm
      have hcall2 := specCutText_any s (m : Int) w1 hsm
      rw [he] at hcall hcall2
      have HC := Lib.hid hcall
      have HC2 := Lib.hid hcall2
      clear hcall hcall2
      clear hv
      go_wp2_with fail
      refine HC.out.mono ?_
      rintro e w' ⟨rfl, rfl⟩
      go_wp2_with fail
      refine HC2.out.mono ?_
      rintro e w' ⟨rfl, rfl⟩
      go_wp2_with (first | (go_at_call 10; refine (implTextValid_any _ _ (by simp only [maxLen]; omega)).mono ?_; rintro e w' ⟨rfl, rfl⟩) | (go_at_call 11; refine (alive_any _).mono ?_; rintro e w' ⟨rfl, rfl⟩))
      go_ret
      exact ⟨rfl, hb1⟩
  · have hd : decide (1048576 < (cs.length : Int)) = true := decide_eq_true (by omega)
    go_enter Try.func4, Try.ntmps4
    go_wp2
    go_ret
    exact ⟨rfl, Below.refl _ _⟩
end Go.Proofs.Ytnmgfpphihieiaa
