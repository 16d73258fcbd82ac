import Derived.Test.YtgogkdenolkfjaaDrawReports
import Derived.Test.YtgogkdenolkfjaaReportD
import Derived.Test.YtgogkdenolkfjaaReportPlain3
import Derived.Test.YtgogkdenolkfjaaWords
namespace Go.Proofs.Ytgogkdenolkfjaa
open Go.RowKit PP
set_option maxRecDepth 100000 in
set_option maxHeartbeats 3200000 in
theorem FnNextReport_walk (A : Option Addr) (cap : Nat) (cs : List Int) (w : World) (h : Rd w w.heap.size 1 A cs.length (fun j => .int .u8 (at_ cs j))) (hc : cs.length ≤ cap) (_ : cap ≤ maxLen) (hwf : ∀ n ∈ cs, (Lit.int .u8 n).wf = true) :
    Calls Try.prog 6 #[.slice A cs.length cap] w fun e w' => e = .returned (.bool true) ∧ Below w.heap.size w w' := by
  by_cases hs : cs.length ≤ 1048576
  · have hd : decide (1048576 < (cs.length : Int)) = false := decide_eq_false (by omega)
    have hbyte := Lib.hid (byte_bounds hwf)
    clear hwf
    go_enter Try.func6, Try.ntmps6
    go_wp2_with fail
    refine (DrawNextReport_any A cap _ cs w h (Nat.le_refl _) hbyte.out hc hs).mono ?_
    rintro e w1 ⟨T, c1, xs, rfl, hx, hsz, o1, hb1⟩
    have hs1 := hb1.size
    have rx := OwnE.rd o1
    have hcp := Own.capLe o1
    have HSZ := Lib.hid hsz
    clear hsz
    have hself := seq_eql (nextOf xs) (nextOf xs)
    rw [seq_self] at hself
    go_wp2_with fail
    refine (implNextReport_any T c1 _ xs w1 rx (Nat.le_refl _) (by omega) hcp HSZ.out).mono ?_
    rintro e w2 ⟨rfl, b2⟩
    have s2 := b2.size
    go_wp2_with fail
    refine (specNextReport_any T c1 _ xs w2 (rx.below b2) s2 (by omega) HSZ.out).mono ?_
    rintro e w3 ⟨rfl, b3⟩
    have k3 := (tr b2 b3)
    have s3 := k3.size
    clear b2 b3
    go_wp2_with fail
    go_loop [5, 6] (fun v i => ∃ k : Nat, k ≤ xs.length ∧ i = .int .i64 k ∧ v = .int .i64 (lm xs (nextOf xs) k)) (fun _ i => xs.length - (intOf i).toNat)
    case atStart => exact ⟨0, Nat.zero_le _, rfl, rfl⟩
    case round =>
      obtain ⟨k, hk, rfl, rfl⟩ := hrel
      by_cases hlt : k < xs.length
      · obtain ⟨b, off, rfl, hb, hcell⟩ := (rx.below k3).at_ (by omega)
        have c0 : w3.cell? ⟨b, off + k * 3, none⟩ = some (Value.string (gt xs k).1) := hcell k 0 (by omega) (by omega)
        have c1 : w3.cell? ⟨b, off + k * 3 + 1, none⟩ = some (Value.int .i64 (gt xs k).2.1) := hcell k 1 (by omega) (by omega)
        have c2 : w3.cell? ⟨b, off + k * 3 + 2, none⟩ = some (Value.bool (gt xs k).2.2) := hcell k 2 (by omega) (by omega)
        clear hcell
        cases hq : seq (gt xs k).1 (nextOf xs)
        · have q0 : ((gt xs k).1.toList == (nextOf xs).toList) = false := by rw [seq_eql]; exact hq
          have HN := Lib.hid (lm_no1 hq)
          clear hq
          go_wp2_with fail
          go_round
          case rel => exact ⟨k + 1, by omega, by go_num, by rw [HN.out]⟩
          case measure => simp [intOf]; omega
        · have q0 : ((gt xs k).1.toList == (nextOf xs).toList) = true := by rw [seq_eql]; exact hq
          cases hd2 : (gt xs k).2.2
          · have HN := Lib.hid (lm_yes hq hd2)
            rw [hd2] at c2
            clear hq hd2
            go_wp2_with fail
            go_round
            case rel => exact ⟨k + 1, by omega, by go_num, by rw [HN.out]⟩
            case measure => simp [intOf]; omega
          · have HN := Lib.hid (lm_no2 (s := nextOf xs) hd2)
            rw [hd2] at c2
            clear hq hd2
            go_wp2_with fail
            go_round
            case rel => exact ⟨k + 1, by omega, by go_num, by rw [HN.out]⟩
            case measure => simp [intOf]; omega
      · obtain rfl : k = xs.length := by omega
        by_cases hv : rvB xs = true
        ·
          go_wp2_with fail
          go_loopw [7] (fun i wr => ∃ k : Nat, k ≤ xs.length ∧ i = .int .i64 k ∧ Below w3.heap.size w3 wr) (fun i _ => xs.length - (intOf i).toNat)
          case atStart => exact ⟨0, Nat.zero_le _, rfl, Below.refl _ _⟩
          case round =>
            obtain ⟨k, hk2, rfl, hbl⟩ := hrel
            have kr := (tr k3 hbl)
            by_cases hlt2 : k < xs.length
            · have k1 : decide ((k : Int) < (xs.length : Int)) = true := by simp [hlt2]
              have k2 : decide (k < xs.length) = true := by simp [hlt2]
              go_wp2_with fail
              refine (implReportsValid_any T c1 _ xs wr (rx.below kr) kr.size (by omega) hcp HSZ.out).mono ?_
              rintro e w4 ⟨rfl, b4⟩
              have k4 := (tr kr b4)
              obtain ⟨b, off, rfl, hb, hcell⟩ := (rx.below k4).at_ (by omega)
              have c1 : w4.cell? ⟨b, off + k * 3 + 1, none⟩ = some (Value.int .i64 (gt xs k).2.1) := hcell k 1 (by omega) (by omega)
              have c2 : w4.cell? ⟨b, off + k * 3 + 2, none⟩ = some (Value.bool (gt xs k).2.2) := hcell k 2 (by omega) (by omega)
              clear hcell
              cases hd2 : (gt xs k).2.2
              · have hmx : decide (lm xs (nextOf xs) xs.length < (gt xs k).2.1) = false := decide_eq_false (by have := next_max hv hlt2 hd2; omega)
                rw [hd2] at c2
                clear hd2
                go_wp2_with fail
                go_roundw
                case rel => exact ⟨k + 1, by omega, by go_num, (tr hbl b4)⟩
                case measure => simp [intOf]; omega
              · rw [hd2] at c2
                clear hd2
                go_wp2_with fail
                go_roundw
                case rel => exact ⟨k + 1, by omega, by go_num, (tr hbl b4)⟩
                case measure => simp [intOf]; omega
            · obtain rfl : k = xs.length := by omega
              rcases next_pos xs with he | ⟨he, hp⟩
              ·
                go_wp2_with (go_at_call 19; refine (alive_any _).mono ?_; rintro e w' ⟨rfl, rfl⟩)
                go_ret
                exact ⟨rfl, (tr hb1 kr)⟩
              · have hpd : decide (0 < lm xs (nextOf xs) xs.length) = true := decide_eq_true hp
                go_wp2_with (go_at_call 19; refine (alive_any _).mono ?_; rintro e w' ⟨rfl, rfl⟩)
                go_ret
                exact ⟨rfl, (tr hb1 kr)⟩
        · have hvf : rvB xs = false := by simpa using hv
          clear hv
          have hpos : 0 < xs.length := by
            rcases Nat.eq_zero_or_pos xs.length with h0 | h0
            · rw [List.eq_nil_of_length_eq_zero h0] at hvf; cases hvf
            · exact h0
          have k1 : decide ((0 : Int) < (xs.length : Int)) = true := decide_eq_true (by omega)
          go_wp2_with fail
          refine wp_loop_rounds 1 ?_
          rw [rounds_succ]
          go_wp2_with fail
          refine (implReportsValid_any T c1 _ xs w3 (rx.below k3) k3.size (by omega) hcp HSZ.out).mono ?_
          rintro e w4 ⟨rfl, b4⟩
          rcases next_pos xs with he | ⟨he, hp⟩
          ·
            go_wp2_with (go_at_call 19; refine (alive_any _).mono ?_; rintro e w' ⟨rfl, rfl⟩)
            go_ret
            exact ⟨rfl, (tr hb1 (tr k3 b4))⟩
          · have hpd : decide (0 < lm xs (nextOf xs) xs.length) = true := decide_eq_true hp
            go_wp2_with (go_at_call 19; refine (alive_any _).mono ?_; rintro e w' ⟨rfl, rfl⟩)
            go_ret
            exact ⟨rfl, (tr hb1 (tr k3 b4))⟩
  · have hd : decide (1048576 < (cs.length : Int)) = true := decide_eq_true (by omega)
    go_enter Try.func6, Try.ntmps6
    go_wp2
    go_ret
    exact ⟨rfl, Below.refl _ _⟩
end Go.Proofs.Ytgogkdenolkfjaa
