import Derived.Test.YtnmgfpphihieiaaDrawTexts
import Derived.Test.YtnmgfpphihieiaaTextA
namespace Go.Proofs.Ytnmgfpphihieiaa
open Go.RowKit PP
set_option maxHeartbeats 800000 in
theorem FnFirstSentence_walk (A : Option Addr) (cap : Nat) (cs : List Int) (w : World) (h : Rd w w.heap.size 1 A cs.length (fun j => .int .u8 (at_ cs j))) (hc : cs.length ≤ cap) (_ : cap ≤ maxLen) (hwf : ∀ n ∈ cs, (Lit.int .u8 n).wf = true) :
    Calls Try.prog 3 #[.slice A cs.length cap] w fun e w' => e = .returned (.bool true) ∧ Below w.heap.size w w' := by
  by_cases hs : cs.length ≤ 1048576
  · have hd : decide (1048576 < (cs.length : Int)) = false := decide_eq_false (by omega)
    have hbyte := Lib.hid (byte_bounds hwf)
    clear hwf
    go_enter Try.func3, Try.ntmps3
    go_wp2_with fail
    refine (DrawFirstSentence_any A cap _ cs w h (Nat.le_refl _) hbyte.out hc hs).mono ?_
    rintro e w1 ⟨s, rfl, hsz, hb1⟩
    have hsm : s.size ≤ maxLen := (by simp only [maxLen]; omega)
    have hX := fsOf_size s
    have HT := Lib.hid (fun h : textB s = true => fsOf_twice h)
    have HE := Lib.hid (fun h : textB s = false => fsOf_no h)
    have HY := Lib.hid (fun h : textB s = true => (⟨fsOf_yes h, fsLen_le s⟩ : _ ∧ _))
    by_cases hv : textB s = true
    · have hself : s.extract 0 (fsOf s).size = fsOf s := by
        have h1 := HY.out hv
        rw [h1.1, size_ext h1.2]; rfl
      have htw := HT.out hv
      have hXm : (fsOf s).size ≤ maxLen := Nat.le_trans hX hsm
      have heq2 : ((fsOf (fsOf s)).toList == (fsOf s).toList) = true := by rw [htw]; simp
      have hne : ((fsOf s).toList != (fsOf s).toList) = false := by simp
      have heq : ((fsOf s).toList == (fsOf s).toList) = true := by simp
      have hle : decide (((fsOf s).size : Int) ≤ (s.size : Int)) = true := decide_eq_true (by omega)
      have hle2 : (fsOf s).size ≤ s.size := hX
      clear htw HT HE HY
      have hdummy : True := trivial
      go_wp2_with (first | (go_at_call 8; refine (implFirstSentence_any _ _ (by assumption)).mono ?_; rintro e w' ⟨rfl, rfl⟩) | (go_at_call 9; refine (specFirstSentence_any _ _ (by assumption)).mono ?_; rintro e w' ⟨rfl, rfl⟩) | (go_at_call 10; refine (implTextValid_any _ _ (by simp only [maxLen]; omega)).mono ?_; rintro e w' ⟨rfl, rfl⟩))
      go_ret
      exact ⟨rfl, hb1⟩
    · have hv' : textB s = false := by simpa using hv
      have he := HE.out hv'
      have hcall := implFirstSentence_any s w1 hsm
      have hcall2 := specFirstSentence_any s w1 hsm
      rw [he] at hcall hcall2
      have HC := Lib.hid hcall
      have HC2 := Lib.hid hcall2
      clear hcall hcall2 he HT HE HY hX hv
      go_wp2_with fail
      refine HC.out.mono ?_
      rintro e w' ⟨rfl, rfl⟩
      go_wp2_with fail
      refine HC2.out.mono ?_
      rintro e w' ⟨rfl, rfl⟩
      go_wp2_with (first | (go_at_call 10; refine (implTextValid_any _ _ (by simp only [maxLen]; omega)).mono ?_; rintro e w' ⟨rfl, rfl⟩) | (go_at_call 11; refine (alive_any _).mono ?_; rintro e w' ⟨rfl, rfl⟩))
      go_ret
      exact ⟨rfl, hb1⟩
  · have hd : decide (1048576 < (cs.length : Int)) = true := decide_eq_true (by omega)
    go_enter Try.func3, Try.ntmps3
    go_wp2
    go_ret
    exact ⟨rfl, Below.refl _ _⟩
end Go.Proofs.Ytnmgfpphihieiaa
