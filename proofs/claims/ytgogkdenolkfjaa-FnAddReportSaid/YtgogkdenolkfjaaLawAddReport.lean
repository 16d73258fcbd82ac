import Derived.Test.YtgogkdenolkfjaaDrawReports
import Derived.Test.YtgogkdenolkfjaaReportB
import Derived.Test.YtgogkdenolkfjaaReportD
import Derived.Test.YtgogkdenolkfjaaReportPlain3
import Derived.Test.YtgogkdenolkfjaaWords
import Derived.Test.YtgogkdenolkfjaaSub
namespace Go.Proofs.Ytgogkdenolkfjaa
open Go.RowKit PP
set_option maxRecDepth 100000 in
set_option maxHeartbeats 6400000 in
theorem FnAddReport_walk (A : Option Addr) (cap : Nat) (cs : List Int) (w : World) (h : Rd w w.heap.size 1 A cs.length (fun j => .int .u8 (at_ cs j))) (hc : cs.length ≤ cap) (_ : cap ≤ maxLen) (hwf : ∀ n ∈ cs, (Lit.int .u8 n).wf = true) :
    Calls Try.prog 7 #[.slice A cs.length cap] w fun e w' => e = .returned (.bool true) ∧ Below w.heap.size w w' := by
  by_cases hs : cs.length ≤ 1048576
  · have hd : decide (1048576 < (cs.length : Int)) = false := decide_eq_false (by omega)
    have hbyte := Lib.hid (byte_bounds hwf)
    clear hwf
    go_enter Try.func7, Try.ntmps7
    go_wp2_with fail
    refine (DrawAddReport_any A cap _ cs w h (Nat.le_refl _) hbyte.out hc hs).mono ?_
    rintro e w1 ⟨T, c1, xs, s, rfl, hx, hsz, hs9, o1, hb1⟩
    have hs1 := hb1.size
    have rx := OwnE.rd o1
    have hcp := Own.capLe o1
    have HSZ := Lib.hid hsz
    clear hsz
    have hL := addOf_len xs s
    have hself := sameB_self (addOf xs s)
    have hbs := bne_self (addOk xs s)
    have HSY := Lib.hid (addOf_sz HSZ.out (sz9 hs9))
    go_wp2_with fail
    refine (implAddReport_any T c1 _ xs s w1 rx (Nat.le_refl _) (by omega) hcp HSZ.out (sz9 hs9)).mono ?_
    rintro e w2 ⟨R, c2, rfl, o2, b2⟩
    have s2 := b2.size
    have hcp2 := Own.capLe o2
    go_wp2_with fail
    refine (specAddReport_any T c1 _ xs s w2 (rx.below b2) s2 (by omega) HSZ.out (sz9 hs9)).mono ?_
    rintro e w3 ⟨R3, c3, rfl, o3, b3⟩
    have k3 := (tr b2 b3)
    have s3 := k3.size
    have o2_3 := Own.below o2 b3
    go_wp2_with fail
    refine (sameReports_any R R3 c2 c3 w3.heap.size (addOf xs s) (addOf xs s) w3 (OwnE.rd o2_3) (OwnE.rd o3) (Nat.le_refl _) (by omega) (by omega)).mono ?_
    rintro e w4 ⟨rfl, b4⟩
    have k4 := (tr k3 b4)
    have m4 := (tr b3 b4)
    have s4 := k4.size
    have o2_4 := Own.below o2 m4
    clear o3 o2_3
    cases hok : addOk xs s
    · have hbf := hok
      clear hok hbs
      rcases addOf_or hbf with hE | hE
      · have hsm : sameB (addOf xs s) xs = true := by rw [hE]; exact sameB_self xs
        have HE := Lib.hid hE
        clear hE
        go_wp2_with (first | (go_at_call 24; refine (sameReports_any R T c2 c1 w4.heap.size (addOf xs s) xs w4 (OwnE.rd o2_4) (RdE.more (rx.below k4) s4) (Nat.le_refl _) (by omega) (by omega)).mono ?_; rintro e w5 ⟨rfl, b5⟩) | (go_at_call 19; refine (alive_any _).mono ?_; rintro e w' ⟨rfl, rfl⟩))
        go_ret
        exact ⟨rfl, (tr hb1 (tr k4 b5))⟩
      · have hz : (((addOf xs s).length : Int) == 0) = true := by rw [hE]; rfl
        have HE := Lib.hid hE
        clear hE
        cases hsm : sameB (addOf xs s) xs
        ·
          go_wp2_with (first | (go_at_call 24; refine (sameReports_any R T c2 c1 w4.heap.size (addOf xs s) xs w4 (OwnE.rd o2_4) (RdE.more (rx.below k4) s4) (Nat.le_refl _) (by omega) (by omega)).mono ?_; rintro e w5 ⟨rfl, b5⟩) | (go_at_call 19; refine (alive_any _).mono ?_; rintro e w' ⟨rfl, rfl⟩))
          go_ret
          exact ⟨rfl, (tr hb1 (tr k4 b5))⟩
        ·
          go_wp2_with (first | (go_at_call 24; refine (sameReports_any R T c2 c1 w4.heap.size (addOf xs s) xs w4 (OwnE.rd o2_4) (RdE.more (rx.below k4) s4) (Nat.le_refl _) (by omega) (by omega)).mono ?_; rintro e w5 ⟨rfl, b5⟩) | (go_at_call 19; refine (alive_any _).mono ?_; rintro e w' ⟨rfl, rfl⟩))
          go_ret
          exact ⟨rfl, (tr hb1 (tr k4 b5))⟩
    · obtain ⟨hv, hva, hEq⟩ := addOk_true hok
      have hge := addR_ge xs s
      have hle := addR_len xs s
      rw [← hEq] at hge hle
      have HEQ := Lib.hid hEq
      clear hok hbs hEq
      have hvy : rvB (addOf xs s) = true := by rw [HEQ.out]; exact hva
      have ry := OwnE.rd o2_4
      have hsum : mTo (addOf xs s) (addOf xs s).length - mTo xs xs.length = 1 := by rw [HEQ.out]; exact mTo_addR xs s
      have HSUM := Lib.hid hsum
      clear hsum
      go_wp2_with fail
      go_loop [9, 10] (fun v i => ∃ k : Nat, k ≤ (addOf xs s).length ∧ i = .int .i64 k ∧ v = .int .i64 (mTo (addOf xs s) k)) (fun _ i => (addOf xs s).length - (intOf i).toNat)
      case atStart => exact ⟨0, Nat.zero_le _, rfl, rfl⟩
      case round =>
        obtain ⟨k, hk, rfl, rfl⟩ := hrel
        have hrng := mTo_rng hvy k hk
        by_cases hlt : k < (addOf xs s).length
        · have hmk := rv_many hvy hlt
          obtain ⟨b, off, rfl, hb, hcell⟩ := ry.at_ (by omega)
          have c1_ : w4.cell? ⟨b, off + k * 3 + 1, none⟩ = some (Value.int .i64 (gt (addOf xs s) k).2.1) := hcell k 1 (by omega) (by omega)
          clear hcell
          have HN := Lib.hid (mTo_step hlt)
          go_wp2_with fail
          go_round
          case rel => exact ⟨k + 1, by omega, by go_num, by rw [HN.out]⟩
          case measure => simp [intOf]; omega
        · obtain rfl : k = (addOf xs s).length := by omega
          go_wp2_with fail
          go_loopw [9, 11] (fun v i wr => ∃ k : Nat, k ≤ xs.length ∧ i = .int .i64 k ∧ v = .int .i64 (mTo (addOf xs s) (addOf xs s).length - mTo xs k) ∧ Below w4.heap.size w4 wr) (fun _ i _ => xs.length - (intOf i).toNat)
          case atStart => exact ⟨0, Nat.zero_le _, rfl, by rw [mTo_zero]; simp, Below.refl _ _⟩
          case round =>
            obtain ⟨k, hk2, rfl, rfl, hbl⟩ := hrel
            have hrng2 := mTo_rng hv k hk2
            have kr := (tr k4 hbl)
            have mr := (tr m4 hbl)
            by_cases hlt2 : k < xs.length
            · have k1 : decide ((k : Int) < (xs.length : Int)) = true := by simp [hlt2]
              have k2 : decide (k < xs.length) = true := by simp [hlt2]
              have j1 : decide ((k : Int) < ((addOf xs s).length : Int)) = true := decide_eq_true (by omega)
              have j2 : decide (k < (addOf xs s).length) = true := decide_eq_true (by omega)
              have hmk := rv_many hv hlt2
              obtain ⟨e1, e2⟩ := addR_same (what := s) hlt2
              rw [← HEQ.out] at e1 e2
              obtain ⟨b, off, rfl, hb, hcell⟩ := (rx.below kr).at_ (by omega)
              have c0_ : wr.cell? ⟨b, off + k * 3, none⟩ = some (Value.string (gt xs k).1) := hcell k 0 (by omega) (by omega)
              have c1_ : wr.cell? ⟨b, off + k * 3 + 1, none⟩ = some (Value.int .i64 (gt xs k).2.1) := hcell k 1 (by omega) (by omega)
              have c2_ : wr.cell? ⟨b, off + k * 3 + 2, none⟩ = some (Value.bool (gt xs k).2.2) := hcell k 2 (by omega) (by omega)
              clear hcell
              obtain ⟨b', off', rfl, hb', hcell⟩ := (ry.below hbl).at_ (by omega)
              have d0_ : wr.cell? ⟨b', off' + k * 3, none⟩ = some (Value.string (gt xs k).1) := (hcell k 0 (by omega) (by omega)).trans (congrArg (fun x => some (Value.string x)) e1)
              have d2_ : wr.cell? ⟨b', off' + k * 3 + 2, none⟩ = some (Value.bool (gt xs k).2.2) := (hcell k 2 (by omega) (by omega)).trans (congrArg (fun x => some (Value.bool x)) e2)
              clear hcell
              have HN := Lib.hid (mTo_step hlt2)
              have hse : ((gt xs k).1.toList == (gt xs k).1.toList) = true := by rw [seq_eql]; exact seq_self _
              have hbe := bne_self (gt xs k).2.2
              have hkl' : (k : Int) < ((addOf xs s).length : Int) := by omega
              have hkl2 : k < (addOf xs s).length := by omega
              clear e1 e2
              go_wp2_with fail
              go_quiet (fail)
              go_wp2_with fail
              go_roundw
              case rel => exact ⟨k + 1, by omega, by go_num, by rw [HN.out]; go_num, below_drewN hbl _⟩
              case measure => simp [intOf]; omega
            · obtain rfl : k = xs.length := by omega
              have k1 : decide ((xs.length : Int) < (xs.length : Int)) = false := by simp
              have hq1 : (mTo (addOf xs s) (addOf xs s).length - mTo xs xs.length == 1) = true := beq_iff_eq.2 HSUM.out
              have hq2 : decide (((addOf xs s).length : Int) ≤ (xs.length : Int) + 1) = true := decide_eq_true (by omega)
              go_wp2_with fail
              refine (implReportsValid_any R c2 _ (addOf xs s) wr (OwnE.rd (Own.below o2 mr)) (Nat.le_refl _) (by omega) hcp2 HSY.out).mono ?_
              rintro e w5 ⟨rfl, b5⟩
              go_wp2_with fail
              go_ret
              exact ⟨rfl, (tr hb1 (tr kr b5))⟩
  · have hd : decide (1048576 < (cs.length : Int)) = true := decide_eq_true (by omega)
    go_enter Try.func7, Try.ntmps7
    go_wp2
    go_ret
    exact ⟨rfl, Below.refl _ _⟩
end Go.Proofs.Ytgogkdenolkfjaa
