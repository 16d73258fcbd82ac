import Derived.Test.YtggdfmkenmlbjaaDrawTombs
import Derived.Test.YtggdfmkenmlbjaaTombB
import Derived.Test.YtggdfmkenmlbjaaTombPlain4
import Derived.Test.YtggdfmkenmlbjaaWords
namespace Go.Proofs.Ytggdfmkenmlbjaa
open Go.RowKit PP
set_option maxRecDepth 100000 in
set_option maxHeartbeats 1600000 in
theorem FnIsBuried_walk (A : Option Addr) (cap : Nat) (cs : List Int) (w : World) (h : Rd w w.heap.size 1 A cs.length (fun j => .int .u8 (at_ cs j))) (hc : cs.length ≤ cap) (_ : cap ≤ maxLen) (hwf : ∀ n ∈ cs, (Lit.int .u8 n).wf = true) :
    Calls Try.prog 6 #[.slice A cs.length cap] w fun e w' => e = .returned (.bool true) ∧ Below w.heap.size w w' := by
  by_cases hs : cs.length ≤ 1048576
  · have hd : decide (1048576 < (cs.length : Int)) = false := decide_eq_false (by omega)
    have hbyte := Lib.hid (byte_bounds hwf)
    clear hwf
    go_enter Try.func6, Try.ntmps6
    go_wp2_with fail
    refine (DrawIsBuried_any A cap _ cs w h (Nat.le_refl _) hbyte.out hc hs).mono ?_
    rintro e w1 ⟨T, c1, xs, key, now, rfl, hx, hsz, hk, hn0, hn1, o1, hb1⟩
    have hs1 := hb1.size
    have rx := SubE.rd o1
    have hcp := Sub.capLe o1
    have HSZ := Lib.hid hsz
    clear hsz
    have hbs := bne_self (buriedB xs key now)
    go_wp2_with fail
    refine (implIsBuried_any T c1 _ xs key now w1 rx (Nat.le_refl _) (by omega) hcp HSZ.out).mono ?_
    rintro e w2 ⟨rfl, b2⟩
    have s2 := b2.size
    go_wp2_with fail
    refine (specIsBuried_any T c1 _ xs key now w2 (rx.below b2) s2 (by omega) HSZ.out).mono ?_
    rintro e w3 ⟨rfl, b3⟩
    have k3 := (tr b2 b3)
    have s3 := k3.size
    clear b2 b3
    go_wp2_with fail
    refine (implIsBuried_any T c1 _ xs key (now + 1) w3 (rx.below k3) s3 (by omega) hcp HSZ.out).mono ?_
    rintro e w4 ⟨rfl, b4⟩
    have k4 := (tr k3 b4)
    have hnil := buriedB_nil key now
    have hcall := implIsBuried_any none 0 0 [] key now w4 RdE.nil (Nat.zero_le _) (by simp) (Nat.le_refl _) (fun k hk => by simp at hk)
    rw [hnil] at hcall
    have HC := Lib.hid hcall
    clear hcall hnil
    cases hq : buriedB xs key (now + 1)
    ·
      go_wp2_with (first | (go_at_call 17; refine (HC.out).mono ?_; rintro e w5 ⟨rfl, b5⟩; have k5 := (tr k4 b5)) | (go_at_call 19; refine (alive_any _).mono ?_; rintro e w' ⟨rfl, rfl⟩))
      go_ret
      exact ⟨rfl, (tr hb1 k5)⟩
    · have hb := buriedB_before hq
      go_wp2_with (first | (go_at_call 17; refine (HC.out).mono ?_; rintro e w5 ⟨rfl, b5⟩; have k5 := (tr k4 b5)) | (go_at_call 19; refine (alive_any _).mono ?_; rintro e w' ⟨rfl, rfl⟩))
      go_ret
      exact ⟨rfl, (tr hb1 k5)⟩
  · have hd : decide (1048576 < (cs.length : Int)) = true := decide_eq_true (by omega)
    go_enter Try.func6, Try.ntmps6
    go_wp2
    go_ret
    exact ⟨rfl, Below.refl _ _⟩
end Go.Proofs.Ytggdfmkenmlbjaa
