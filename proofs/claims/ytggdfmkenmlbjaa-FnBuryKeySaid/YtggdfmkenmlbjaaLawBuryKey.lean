import Derived.Test.YtggdfmkenmlbjaaDrawTombs2
import Derived.Test.YtggdfmkenmlbjaaTombB
import Derived.Test.YtggdfmkenmlbjaaTombC
import Derived.Test.YtggdfmkenmlbjaaTombD
import Derived.Test.YtggdfmkenmlbjaaTombPlain4
import Derived.Test.YtggdfmkenmlbjaaWords
namespace Go.Proofs.Ytggdfmkenmlbjaa
open Go.RowKit PP
set_option maxRecDepth 100000 in
set_option maxHeartbeats 1600000 in
theorem FnBuryKey_walk (A : Option Addr) (cap : Nat) (cs : List Int) (w : World) (h : Rd w w.heap.size 1 A cs.length (fun j => .int .u8 (at_ cs j))) (hc : cs.length ≤ cap) (_ : cap ≤ maxLen) (hwf : ∀ n ∈ cs, (Lit.int .u8 n).wf = true) :
    Calls Try.prog 7 #[.slice A cs.length cap] w fun e w' => e = .returned (.bool true) ∧ Below w.heap.size w w' := by
  by_cases hs : cs.length ≤ 1048576
  · have hd : decide (1048576 < (cs.length : Int)) = false := decide_eq_false (by omega)
    have hbyte := Lib.hid (byte_bounds hwf)
    clear hwf
    go_enter Try.func7, Try.ntmps7
    go_wp2_with fail
    refine (DrawBuryKey_any A cap _ cs w h (Nat.le_refl _) hbyte.out hc hs).mono ?_
    rintro e w1 ⟨T, c1, xs, key, when, rfl, hx, hsz, hk, o1, hb1⟩
    have hs1 := hb1.size
    have rx := SubE.rd o1
    have hcp := Sub.capLe o1
    have hML := buryOf_len xs key when
    have HSM := Lib.hid (buryOf_sz (key := key) (when := when) hsz (sz40 hk))
    have HSZ := Lib.hid hsz
    clear hsz
    have hself := sameB_self (buryOf xs key when)
    have hfact : buryOf xs key when = [] ∨ (tmB (buryOf xs key when) = true ∧ buriedB (buryOf xs key when) key when = true ∧ buriedB (buryOf xs key when) key (when + 100) = true ∧ buriedB (buryOf xs key when) key (when + 100 + 1) = false ∧ buryOf (buryOf xs key when) key when = buryOf xs key when ∧ 0 < (buryOf xs key when).length ∧ 0 ≤ when ∧ when ≤ 1000000000) := by
      cases hcb : canB xs key when
      · exact .inl (buryOf_no hcb)
      · obtain ⟨q1, q2, q3, q4⟩ := bury_facts hcb
        have q5 := ((canB_iff _ _ _).1 hcb).2.2.1
        simp only [inB, Bool.and_eq_true, decide_eq_true_eq] at q5
        rw [buryOf_yes hcb]
        exact .inr ⟨q1, q2, q3, q4, bury_again hcb, newT_ne, q5.1, q5.2⟩
    have HF := Lib.hid hfact
    clear hfact
    go_wp2_with fail
    refine (implBuryKey_any T c1 _ xs key when w1 rx (Nat.le_refl _) (by omega) hcp HSZ.out (sz40 hk)).mono ?_
    rintro e w2 ⟨R, c2, rfl, o2, b2⟩
    have s2 := b2.size
    go_wp2_with fail
    refine (specBuryKey_any T c1 _ xs key when w2 (rx.below b2) s2 (by omega) HSZ.out (sz40 hk)).mono ?_
    rintro e w3 ⟨R3, c3, rfl, o3, b3⟩
    have k3 := (tr b2 b3)
    have s3 := k3.size
    have o2_3 := Own.below o2 b3
    go_wp2_with fail
    refine (sameTombs_any R R3 c2 c3 w3.heap.size (buryOf xs key when) (buryOf xs key when) w3 (OwnE.rd o2_3) (SubE.rd o3) (Nat.le_refl _) (by omega) (by omega)).mono ?_
    rintro e w4 ⟨rfl, b4⟩
    have k4 := (tr k3 b4)
    have m4 := (tr b3 b4)
    have s4 := k4.size
    have o2_4 := Own.below o2 m4
    clear o2_3 o3 b3 b4 k3
    generalize buryOf xs key when = M at *
    rcases HF.out with hE | ⟨q1, q2, q3, q4, q5, q6, q7, q8⟩
    · have hz : ((M.length : Int) == 0) = true := by rw [hE]; rfl
      have HE := Lib.hid hE
      clear hE HF
      go_wp2_with (go_at_call 19; refine (alive_any _).mono ?_; rintro e w' ⟨rfl, rfl⟩)
      go_ret
      exact ⟨rfl, (tr hb1 k4)⟩
    · have hz : ((M.length : Int) == 0) = false := beq_eq_false_iff_ne.2 (by omega)
      have hcpM : M.length ≤ c2 := (Own.sub o2).capLe
      have Q5 := Lib.hid q5
      clear q5 HF
      go_wp2_with fail
      refine (implTombsValid_any R c2 _ M w4 (OwnE.rd o2_4) (Nat.le_refl _) (by omega) hcpM HSM.out).mono ?_
      rintro e w5 ⟨rfl, b5⟩
      have k5 := (tr k4 b5)
      have m5 := (tr m4 b5)
      have o2_5 := Own.below o2 m5
      go_wp2_with fail
      refine (implIsBuried_any R c2 _ M key when w5 (OwnE.rd o2_5) (Nat.le_refl _) (by omega) hcpM HSM.out).mono ?_
      rintro e w6 ⟨rfl, b6⟩
      have k6 := (tr k5 b6)
      have m6 := (tr m5 b6)
      have o2_6 := Own.below o2 m6
      go_wp2_with fail
      refine (implIsBuried_any R c2 _ M key (when + 100) w6 (OwnE.rd o2_6) (Nat.le_refl _) (by omega) hcpM HSM.out).mono ?_
      rintro e w7 ⟨rfl, b7⟩
      have k7 := (tr k6 b7)
      have m7 := (tr m6 b7)
      have o2_7 := Own.below o2 m7
      go_wp2_with fail
      refine (implIsBuried_any R c2 _ M key (when + 100 + 1) w7 (OwnE.rd o2_7) (Nat.le_refl _) (by omega) hcpM HSM.out).mono ?_
      rintro e w8 ⟨rfl, b8⟩
      have k8 := (tr k7 b8)
      have m8 := (tr m7 b8)
      have o2_8 := Own.below o2 m8
      have hcall := implBuryKey_any R c2 _ M key when w8 (OwnE.rd o2_8) (Nat.le_refl _) (by omega) hcpM HSM.out (sz40 hk)
      rw [Q5.out] at hcall
      have HC := Lib.hid hcall
      clear hcall
      go_wp2_with fail
      refine (HC.out).mono ?_
      rintro e w9 ⟨R9, c9, rfl, o9, b9⟩
      have k9 := (tr k8 b9)
      have m9 := (tr m8 b9)
      have o2_9 := Own.below o2 m9
      go_wp2_with fail
      refine (sameTombs_any R9 R c9 c2 w9.heap.size M M w9 (OwnE.rd o9) (RdE.more (OwnE.rd o2_9) (Nat.le_refl _)) (Nat.le_refl _) (by omega) (by omega)).mono ?_
      rintro e w10 ⟨rfl, b10⟩
      go_wp2_with fail
      go_ret
      exact ⟨rfl, (tr hb1 (tr k9 b10))⟩
  · have hd : decide (1048576 < (cs.length : Int)) = true := decide_eq_true (by omega)
    go_enter Try.func7, Try.ntmps7
    go_wp2
    go_ret
    exact ⟨rfl, Below.refl _ _⟩
end Go.Proofs.Ytggdfmkenmlbjaa
