import Derived.Test.YtgogkdenolkfjaaDrawReports
import Derived.Test.YtgogkdenolkfjaaReportB
import Derived.Test.YtgogkdenolkfjaaReportD
import Derived.Test.YtgogkdenolkfjaaReportPlain3
import Derived.Test.YtgogkdenolkfjaaWords
import Derived.Test.YtgogkdenolkfjaaSub
namespace Go.Proofs.Ytgogkdenolkfjaa
open Go.RowKit PP
set_option maxRecDepth 100000 in
set_option maxHeartbeats 6400000 in
theorem FnDecideReport_walk (A : Option Addr) (cap : Nat) (cs : List Int) (w : World) (h : Rd w w.heap.size 1 A cs.length (fun j => .int .u8 (at_ cs j))) (hc : cs.length ≤ cap) (_ : cap ≤ maxLen) (hwf : ∀ n ∈ cs, (Lit.int .u8 n).wf = true) :
    Calls Try.prog 9 #[.slice A cs.length cap] w fun e w' => e = .returned (.bool true) ∧ Below w.heap.size w w' := by
  by_cases hs : cs.length ≤ 1048576
  · have hd : decide (1048576 < (cs.length : Int)) = false := decide_eq_false (by omega)
    have hbyte := Lib.hid (byte_bounds hwf)
    clear hwf
    go_enter Try.func9, Try.ntmps9
    go_wp2_with fail
    refine (DrawDecideReport_any A cap _ cs w h (Nat.le_refl _) hbyte.out hc hs).mono ?_
    rintro e w1 ⟨T, c1, xs, s, rfl, hx, hsz, hs9, o1, hb1⟩
    have hs1 := hb1.size
    have rx := OwnE.rd o1
    have hcp := Own.capLe o1
    have HSZ := Lib.hid hsz
    clear hsz
    have hL := decideOf_len xs s
    have hself := sameB_self (decideOf xs s)
    have hbs := bne_self (decideOk xs s)
    have HSY := Lib.hid (decideOf_sz (what := s) HSZ.out)
    go_wp2_with fail
    refine (implDecideReport_any T c1 _ xs s w1 rx (Nat.le_refl _) (by omega) hcp HSZ.out (sz9 hs9)).mono ?_
    rintro e w2 ⟨R, c2, rfl, o2, b2⟩
    have s2 := b2.size
    have hcp2 := Own.capLe o2
    go_wp2_with fail
    refine (specDecideReport_any T c1 _ xs s w2 (rx.below b2) s2 (by omega) HSZ.out (sz9 hs9)).mono ?_
    rintro e w3 ⟨R3, c3, rfl, o3, b3⟩
    have k3 := (tr b2 b3)
    have s3 := k3.size
    have o2_3 := Own.below o2 b3
    go_wp2_with fail
    refine (sameReports_any R R3 c2 c3 w3.heap.size (decideOf xs s) (decideOf xs s) w3 (OwnE.rd o2_3) (OwnE.rd o3) (Nat.le_refl _) (by omega) (by omega)).mono ?_
    rintro e w4 ⟨rfl, b4⟩
    have k4 := (tr k3 b4)
    have m4 := (tr b3 b4)
    have s4 := k4.size
    have o2_4 := Own.below o2 m4
    clear o3 o2_3
    cases hok : decideOk xs s
    · have hbf := hok
      clear hok hbs
      rcases decideOf_or hbf with hE | hE
      · have hsm : sameB (decideOf xs s) xs = true := by rw [hE]; exact sameB_self xs
        have HE := Lib.hid hE
        clear hE
        go_wp2_with (first | (go_at_call 24; refine (sameReports_any R T c2 c1 w4.heap.size (decideOf xs s) xs w4 (OwnE.rd o2_4) (RdE.more (rx.below k4) s4) (Nat.le_refl _) (by omega) (by omega)).mono ?_; rintro e w5 ⟨rfl, b5⟩) | (go_at_call 19; refine (alive_any _).mono ?_; rintro e w' ⟨rfl, rfl⟩))
        go_ret
        exact ⟨rfl, (tr hb1 (tr k4 b5))⟩
      · have hz : (((decideOf xs s).length : Int) == 0) = true := by rw [hE]; rfl
        have HE := Lib.hid hE
        clear hE
        cases hsm : sameB (decideOf xs s) xs
        ·
          go_wp2_with (first | (go_at_call 24; refine (sameReports_any R T c2 c1 w4.heap.size (decideOf xs s) xs w4 (OwnE.rd o2_4) (RdE.more (rx.below k4) s4) (Nat.le_refl _) (by omega) (by omega)).mono ?_; rintro e w5 ⟨rfl, b5⟩) | (go_at_call 19; refine (alive_any _).mono ?_; rintro e w' ⟨rfl, rfl⟩))
          go_ret
          exact ⟨rfl, (tr hb1 (tr k4 b5))⟩
        ·
          go_wp2_with (first | (go_at_call 24; refine (sameReports_any R T c2 c1 w4.heap.size (decideOf xs s) xs w4 (OwnE.rd o2_4) (RdE.more (rx.below k4) s4) (Nat.le_refl _) (by omega) (by omega)).mono ?_; rintro e w5 ⟨rfl, b5⟩) | (go_at_call 19; refine (alive_any _).mono ?_; rintro e w' ⟨rfl, rfl⟩))
          go_ret
          exact ⟨rfl, (tr hb1 (tr k4 b5))⟩
    · obtain ⟨hnx, hag, hvy⟩ := next_not hok
      have hnx2 : ((nextOf (decideOf xs s)).toList == s.toList) = false := by rw [seq_eql]; exact hnx
      clear hok hbs hnx
      have hall := rest_all hvy
      have HALL := Lib.hid hall
      clear hall
      have hcall := implDecideReport_any R c2 _ (decideOf xs s) s w4 (OwnE.rd o2_4) (Nat.le_refl _) (by omega) hcp2 HSY.out (sz9 hs9)
      rw [hag] at hcall
      have HC := Lib.hid hcall
      clear hcall hag
      go_wp2_with fail
      refine (HC.out).mono ?_
      rintro e w5 ⟨R5, c5, rfl, o5, b5⟩
      have k5 := (tr k4 b5)
      have m5 := (tr m4 b5)
      have s5 := m5.size
      go_wp2_with fail
      go_loopw [11, 12] (fun v i wr => ∃ (j : Nat) (T6 : Option Addr) (c6 : Nat), j ≤ (decideOf xs s).length ∧ i = .int .i64 j ∧ v = .slice T6 (restTo (decideOf xs s) j).length c6 ∧ SubE 3 encReport 34 wr w1.heap.size T6 c6 (restTo (decideOf xs s) j) ∧ Below w5.heap.size w5 wr) (fun _ i _ => (decideOf xs s).length - (intOf i).toNat)
      case atStart => exact ⟨0, R, c2, Nat.zero_le _, rfl, rfl, OwnE.sub (Own.below o2 m5), Below.refl _ _⟩
      case round =>
        obtain ⟨j, T6, c6, hj, rfl, rfl, o6, hbl⟩ := hrel
        have kr := (tr k5 hbl)
        have mr := (tr m5 hbl)
        have h8r := rv_len (rest_ok hvy j)
        have hszr := rest_sz HSY.out (fun _ _ h => decideOf_sz h) j
        have HSR := Lib.hid hszr
        have hcp6 := Sub.capLe o6
        clear hszr
        by_cases hlt : j < (decideOf xs s).length
        ·
          go_wp2_with fail
          refine (implNextReport_any T6 c6 _ (restTo (decideOf xs s) j) wr (SubE.rd o6) (Nat.le_refl _) (by omega) hcp6 HSR.out).mono ?_
          rintro e w6 ⟨rfl, b6⟩
          go_wp2_with fail
          refine (implDecideReport_any T6 c6 _ (restTo (decideOf xs s) j) (nextOf (restTo (decideOf xs s) j)) w6 (SubE.rd (Sub.below o6 b6)) (Nat.le_refl _) (by omega) hcp6 HSR.out (wordAt_sz HSR.out)).mono ?_
          rintro e w7 ⟨T7, c7, rfl, o7, b7⟩
          go_wp2_with fail
          go_roundw
          case rel => exact ⟨j + 1, T7, c7, by omega, by go_num, rfl, OwnE.sub (Own.more o7 (by have := (tr (tr kr b6) (Below.refl _ _)).size; omega)), (tr hbl (tr b6 b7))⟩
          case measure => simp [intOf]; omega
        · obtain rfl : j = (decideOf xs s).length := by omega
          go_wp2_with fail
          refine (implReportsValid_any R c2 _ (decideOf xs s) wr (OwnE.rd (Own.below o2 mr)) (Nat.le_refl _) (by omega) hcp2 HSY.out).mono ?_
          rintro e w8 ⟨rfl, b8⟩
          go_wp2_with fail
          refine (implNextReport_any R c2 _ (decideOf xs s) w8 (OwnE.rd (Own.below o2 (tr mr b8))) (Nat.le_refl _) (by omega) hcp2 HSY.out).mono ?_
          rintro e w9 ⟨rfl, b9⟩
          have b89 := (tr b8 b9)
          have ha := HALL.out
          go_wp2_with fail
          refine (implNextReport_any T6 c6 _ (restTo (decideOf xs s) (decideOf xs s).length) w9 (SubE.rd (Sub.below o6 b89)) (Nat.le_refl _) (by omega) hcp6 HSR.out).mono ?_
          rintro e w10 ⟨rfl, b10⟩
          go_wp2_with fail
          go_ret
          have b90 := (tr b89 b10)
          exact ⟨rfl, (tr hb1 (tr kr b90))⟩
  · have hd : decide (1048576 < (cs.length : Int)) = true := decide_eq_true (by omega)
    go_enter Try.func9, Try.ntmps9
    go_wp2
    go_ret
    exact ⟨rfl, Below.refl _ _⟩
end Go.Proofs.Ytgogkdenolkfjaa
