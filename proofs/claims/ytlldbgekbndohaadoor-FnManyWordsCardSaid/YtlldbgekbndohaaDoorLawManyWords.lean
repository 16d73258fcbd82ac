import Derived.Test.YtlldbgekbndohaaDoorCountA
import Derived.Test.YtlldbgekbndohaaDoorDrawTexts
namespace Go.Proofs.YtlldbgekbndohaaDoor
open Go.RowKit PP
set_option maxHeartbeats 800000 in
theorem FnManyWords_walk (A : Option Addr) (cap : Nat) (cs : List Int) (w : World) (h : Rd w w.heap.size 1 A cs.length (fun j => .int .u8 (at_ cs j))) (hc : cs.length ≤ cap) (_ : cap ≤ maxLen) (hwf : ∀ n ∈ cs, (Lit.int .u8 n).wf = true) (hT : SpTab w) :
    Calls Tryd.prog 4 #[.slice A cs.length cap] w fun e w' => e = .returned (.bool true) ∧ Below w.heap.size w w' := by
  have HT := Lib.hid hT
  clear hT
  by_cases hs : cs.length ≤ 1048576
  · have hd : decide (1048576 < (cs.length : Int)) = false := decide_eq_false (by omega)
    have hbyte := Lib.hid (byte_bounds hwf)
    clear hwf
    go_enter Tryd.func4, Tryd.ntmps4
    go_wp2_with fail
    refine (DrawManyWords_any A cap _ cs w h (Nat.le_refl _) hbyte.out hc hs).mono ?_
    rintro e w1 ⟨s, rfl, hsz, hb1⟩
    have HT1 := Lib.hid (HT.out.below hb1 (Nat.le_refl _))
    have hs1 := hb1.size
    have hsm : s.size ≤ maxLen := (by simp only [maxLen]; omega)
    have hbs : (wordsOf s != wordsOf s) = false := by simp
    by_cases hv : textB s = true
    · have h80 := (Text.of hv).1
      have hh := wdTo_half s s.size
      have hcall := implManyWords_any s w1 hsm HT1.out
      have hcall2 := fun W => specManyWords_any s W hsm
      rw [wordsOf_yes hv] at hcall hbs
      simp only [wordsOf_yes hv] at hcall2
      have HC := Lib.hid hcall
      have HC2 := Lib.hid hcall2
      clear hcall hcall2
      by_cases h2 : s.size + 2 ≤ 80
      · obtain ⟨hm1, hm2⟩ := words_more hv h2
        have hX : (s ++ ({ data := #[32, 97] } : ByteArray)).size ≤ maxLen := by rw [ByteArray.size_append]; simp only [maxLen]; show s.size + 2 ≤ _; omega
        have hcall := fun W => implManyWords_any (s ++ { data := #[32, 97] }) W hX
        simp only [wordsOf_yes hm1, hm2] at hcall
        have HC3 := Lib.hid hcall
        clear hcall hm1 hm2 hv hX
        have dg : decide (80 < (s.size : Int) + 2) = false := decide_eq_false (by omega)
        have dh : decide (2 * (wdTo s s.size : Int) ≤ (s.size : Int) + 1) = true := decide_eq_true (by omega)
        have hcast : (((wdTo s s.size + 1 : Nat) : Int) == (wdTo s s.size : Int) + 1) = true := by simp
        go_wp2_with fail
        refine HC.out.mono ?_
        rintro e w2 ⟨rfl, hb2⟩
        have HT2 := Lib.hid (HT1.out.below hb2 (Nat.le_refl _))
        have hbl := hb1.trans (hb2.mono hs1)
        have hs2 := hbl.size
        go_wp2_with fail
        refine (HC2.out _).mono ?_
        rintro e w' ⟨rfl, rfl⟩
        go_wp2_with fail
        refine (HC3.out _ HT2.out).mono ?_
        rintro e w3 ⟨rfl, hb3⟩
        go_wp2_with fail
        go_ret
        exact ⟨rfl, hbl.trans (hb3.mono hs2)⟩
      · have dg : decide (80 < (s.size : Int) + 2) = true := decide_eq_true (by omega)
        have dh : decide (2 * (wdTo s s.size : Int) ≤ (s.size : Int) + 1) = true := decide_eq_true (by omega)
        clear hv
        go_wp2_with fail
        refine HC.out.mono ?_
        rintro e w2 ⟨rfl, hb2⟩
        have HT2 := Lib.hid (HT1.out.below hb2 (Nat.le_refl _))
        have hbl := hb1.trans (hb2.mono hs1)
        have hs2 := hbl.size
        go_wp2_with fail
        refine (HC2.out _).mono ?_
        rintro e w' ⟨rfl, rfl⟩
        go_wp2_with fail
        go_ret
        exact ⟨rfl, hbl⟩
    · have hv' : textB s = false := by simpa using hv
      have hcall := implManyWords_any s w1 hsm HT1.out
      have hcall2 := fun W => specManyWords_any s W hsm
      rw [wordsOf_no hv'] at hcall hbs
      simp only [wordsOf_no hv'] at hcall2
      have HC := Lib.hid hcall
      have HC2 := Lib.hid hcall2
      clear hcall hcall2 hv
      go_wp2_with fail
      refine HC.out.mono ?_
      rintro e w2 ⟨rfl, hb2⟩
      have HT2 := Lib.hid (HT1.out.below hb2 (Nat.le_refl _))
      have hbl := hb1.trans (hb2.mono hs1)
      have hs2 := hbl.size
      go_wp2_with fail
      refine (HC2.out _).mono ?_
      rintro e w' ⟨rfl, rfl⟩
      go_wp2_with (first | (go_at_call 8; refine (implTextValid_any _ _ (by assumption)).mono ?_; rintro e w' ⟨rfl, rfl⟩) | (go_at_call 9; refine (alive_any _).mono ?_; rintro e w' ⟨rfl, rfl⟩))
      go_ret
      exact ⟨rfl, hbl⟩
  · have hd : decide (1048576 < (cs.length : Int)) = true := decide_eq_true (by omega)
    go_enter Tryd.func4, Tryd.ntmps4
    go_wp2
    go_ret
    exact ⟨rfl, Below.refl _ _⟩
end Go.Proofs.YtlldbgekbndohaaDoor
