import Derived.Test.YtdcppbaahoimfaaMoveB
namespace Go.Proofs.Ytdcppbaahoimfaa
open Go.RowKit
set_option maxRecDepth 100000 in
set_option maxHeartbeats 1600000 in
theorem specMovesValid_any (A : Option Addr) (cap B : Nat) (ms : List ElMove) (w : World) (h : RdE 4 encMove w B A ms) (hB : B ≤ w.heap.size) (hl : ms.length ≤ 140737488351232) (hsz : ∀ k, k < ms.length → (gt ms k).1.1.size ≤ maxLen ∧ (gt ms k).1.2.size ≤ maxLen ∧ (gt ms k).2.1.size ≤ maxLen ∧ (gt ms k).2.2.size ≤ maxLen) :
    Calls Try.prog 13 #[.slice A ms.length cap] w fun e w' => e = .returned (.bool (mvB ms)) ∧ Below w.heap.size w w' := by
  have HD := Lib.hid hsz
  clear hsz
  go_enter Try.func13, Try.ntmps13
  go_wp2_with fail
  go_loopw [3] (fun i wr => ∃ k : Nat, k ≤ ms.length ∧ Hid (upTo OkM ms k) ∧ i = .int .i64 k ∧ Below w.heap.size w wr) (fun i _ => ms.length - (intOf i).toNat)
  case atStart => exact ⟨0, Nat.zero_le _, Lib.hid upTo_zero, rfl, Below.refl _ _⟩
  case round =>
    obtain ⟨k, hk, hok, rfl, hbl⟩ := hrel
    by_cases hlt : k < ms.length
    · obtain ⟨z0, z1, z2, z3⟩ := HD.out k hlt
      have hrr := h.below (hbl.mono hB)
      have hBr := Nat.le_trans hB hbl.size
      obtain ⟨b, off, rfl, hb, hc⟩ := hrr.at_ (by omega)
      have c0 : wr.cell? ⟨b, off + k * 4, none⟩ = some (Value.string ((gt ms k).1.1)) := hc k 0 (by omega) (by omega)
      have c1 : wr.cell? ⟨b, off + k * 4 + 1, none⟩ = some (Value.string ((gt ms k).1.2)) := hc k 1 (by omega) (by omega)
      have c2 : wr.cell? ⟨b, off + k * 4 + 2, none⟩ = some (Value.string ((gt ms k).2.1)) := hc k 2 (by omega) (by omega)
      have c3 : wr.cell? ⟨b, off + k * 4 + 3, none⟩ = some (Value.string ((gt ms k).2.2)) := hc k 3 (by omega) (by omega)
      clear hc
      by_cases q1 : hvB ((gt ms k).1.1, (gt ms k).1.2) = true
      · go_wp2_with fail
        refine (specHandleValid_b _ _ _ z0 z1).mono ?_
        rintro e w1 ⟨rfl, hb1⟩
        have hbl1 := hbl.trans (hb1.mono hbl.size)
        have n2 := (hb1.cell (p := ⟨b, off + k * 4 + 2, none⟩) (by show b < _; omega)).trans c2
        have n3 := (hb1.cell (p := ⟨b, off + k * 4 + 3, none⟩) (by show b < _; omega)).trans c3
        clear c0 c1 c2 c3
        by_cases q2 : hvB ((gt ms k).2.1, (gt ms k).2.2) = true
        · go_wp2_with fail
          refine (specHandleValid_b _ _ _ z2 z3).mono ?_
          rintro e w2 ⟨rfl, hb2⟩
          have hbl2 := hbl1.trans (hb2.mono hbl1.size)
          clear n2 n3
          go_wp2_with fail
          go_loopw [4] (fun i wi => ∃ j : Nat, j ≤ k ∧ Hid (∀ q, q < j → (gt ms q).1 ≠ (gt ms k).1) ∧ i = .int .i64 j ∧ Below w.heap.size w wi) (fun i _ => k - (intOf i).toNat)
          case atStart => exact ⟨0, Nat.zero_le _, Lib.hid (fun j hj => absurd hj (by omega)), rfl, hbl2⟩
          case round =>
            clear hbl hbl1 hbl2 hb1 hb2
            obtain ⟨j, hj, hdj, rfl, hbl⟩ := hrel
            obtain ⟨b, off, he, hb, hc⟩ := (h.below (hbl.mono hB)).at_ (by omega)
            cases he
            by_cases hjk : j < k
            · have c0 : wr.cell? ⟨b, off + k * 4, none⟩ = some (Value.string ((gt ms k).1.1)) := hc k 0 (by omega) (by omega)
              have c1 : wr.cell? ⟨b, off + k * 4 + 1, none⟩ = some (Value.string ((gt ms k).1.2)) := hc k 1 (by omega) (by omega)
              have d0 : wr.cell? ⟨b, off + j * 4, none⟩ = some (Value.string ((gt ms j).1.1)) := hc j 0 (by omega) (by omega)
              have d1 : wr.cell? ⟨b, off + j * 4 + 1, none⟩ = some (Value.string ((gt ms j).1.2)) := hc j 1 (by omega) (by omega)
              clear hc
              have heq := fun w' => eql_Handle (gt ms j).1.1 (gt ms j).1.2 (gt ms k).1.1 (gt ms k).1.2 w'
              have hgd := guard_Handle
              by_cases hq : (gt ms j).1 = (gt ms k).1
              · have q0 : eqEl (α := ElHandle) ((gt ms j).1.1, (gt ms j).1.2) ((gt ms k).1.1, (gt ms k).1.2) = true := eqEl_true hq
                have HQ := Lib.hid (vdB_bad (Ok := OkM) (mx := 8) hlt (fun hk => hk.2.2.1 j hjk hq))
                clear hq
                go_wp2_with fail
                go_quiet (fail)
                go_wp2_with fail
                go_ret
                exact ⟨ret_bool HQ.out.symm, below_drewN hbl _⟩
              · have q0 : eqEl (α := ElHandle) ((gt ms j).1.1, (gt ms j).1.2) ((gt ms k).1.1, (gt ms k).1.2) = false := eqEl_false hq
                have HJ : Hid (∀ q, q < j + 1 → (gt ms q).1 ≠ (gt ms k).1) := Lib.hid (fun q hq1 => by
                  rcases Nat.lt_succ_iff_lt_or_eq.1 hq1 with h1 | rfl
                  · exact hdj.out q h1
                  · exact hq)
                clear hq
                go_wp2_with fail
                go_quiet (fail)
                go_wp2_with fail
                go_roundw
                case rel => exact ⟨j + 1, by omega, HJ, by go_num, below_drewN hbl _⟩
                case measure => simp [intOf]; omega
            · obtain rfl : j = k := by omega
              have c2 : wr.cell? ⟨b, off + j * 4 + 2, none⟩ = some (Value.string ((gt ms j).2.1)) := hc j 2 (by omega) (by omega)
              have c3 : wr.cell? ⟨b, off + j * 4 + 3, none⟩ = some (Value.string ((gt ms j).2.2)) := hc j 3 (by omega) (by omega)
              clear hc
              have hdj := hdj
              have oA : OwnE 2 encHandle 28 (wr.alloc (.cells #[.string ((gt ms j).2.1), .string ((gt ms j).2.2)] 28)) wr.heap.size (some ⟨wr.heap.size, 0, none⟩) 1 [(gt ms j).2] := Own.lit wr 28 2 1 #[.string ((gt ms j).2.1), .string ((gt ms j).2.2)] (cE 2 encHandle [(gt ms j).2]) (by simp only [maxLen]; omega) rfl
              have hbA : Below wr.heap.size wr (wr.alloc (.cells #[.string ((gt ms j).2.1), .string ((gt ms j).2.2)] 28)) := (Below.refl _ _).alloc (Nat.le_refl _) _
              have hzA : wr.heap.size < (wr.alloc (.cells #[.string ((gt ms j).2.1), .string ((gt ms j).2.2)] 28)).heap.size := by simp
              have hBw := Nat.le_trans hB hbl.size
              have hrw := h.below (hbl.mono hB)
              go_wp2_with fail
              generalize (wr.alloc (.cells #[.string ((gt ms j).2.1), .string ((gt ms j).2.2)] 28)) = wA at *
              have hrA := hrw.below (hbA.mono hBw)
              have hwg := hbl.size
              have hbAll := hbl.trans (hbA.mono hwg)
              clear hbA hrw hbl c2 c3
              generalize wr.heap.size = g at *
              go_loopw [6, 7] (fun i _ w6 => ∃ s : Nat, s ≤ ms.length + 1 ∧ Hid (∀ i, i < s → orb ms (gt ms j).2 i ≠ (gt ms j).1) ∧ i = .int .i64 s ∧ OwnE 2 encHandle 28 w6 g (some ⟨g, 0, none⟩) 1 [orb ms (gt ms j).2 s] ∧ Below g wA w6) (fun i _ _ => ms.length + 1 - (intOf i).toNat)
              case atStart => exact ⟨0, Nat.zero_le _, Lib.hid (fun j hj => absurd hj (by omega)), rfl, oA, Below.refl _ _⟩
              case round =>
                clear oA
                obtain ⟨s, hs, hno, rfl, ho6, hbl6⟩ := hrel
                have hend := hbAll.trans (hbl6.mono hwg)
                by_cases hsl : s ≤ ms.length
                · have hsd : decide ((s : Int) ≤ (ms.length : Int)) = true := decide_eq_true (by omega)
                  obtain ⟨u, v, huv⟩ : ∃ u v, orb ms (gt ms j).2 s = (u, v) := ⟨_, _, rfl⟩
                  rw [huv] at ho6
                  have a0 : wr.cell? ⟨g, 0, none⟩ = some (Value.string u) := ho6.cell rfl (j := 0) (by simp)
                  have a1 : wr.cell? ⟨g, 1, none⟩ = some (Value.string v) := ho6.cell rfl (j := 1) (by simp)
                  obtain ⟨b, off, he, hb, hc⟩ := (hrA.below (hbl6.mono hBw)).at_ (by omega)
                  cases he
                  have c0 : wr.cell? ⟨b, off + j * 4, none⟩ = some (Value.string ((gt ms j).1.1)) := hc j 0 (by omega) (by omega)
                  have c1 : wr.cell? ⟨b, off + j * 4 + 1, none⟩ = some (Value.string ((gt ms j).1.2)) := hc j 1 (by omega) (by omega)
                  clear hc
                  have heq := fun w' => eql_Handle u v (gt ms j).1.1 (gt ms j).1.2 w'
                  have hgd := guard_Handle
                  by_cases hcq : orb ms (gt ms j).2 s = (gt ms j).1
                  · have q0 : eqEl (α := ElHandle) (u, v) ((gt ms j).1.1, (gt ms j).1.2) = true := eqEl_true (huv.symm.trans hcq)
                    have HQ := Lib.hid (vdB_bad (Ok := OkM) (mx := 8) hlt (fun hk => hk.2.2.2 s (by omega) hcq))
                    clear hcq
                    go_wp2_with fail
                    go_quiet (fail)
                    go_wp2_with fail
                    go_ret
                    exact ⟨ret_bool HQ.out.symm, below_drewN hend _⟩
                  · have q0 : eqEl (α := ElHandle) (u, v) ((gt ms j).1.1, (gt ms j).1.2) = false := eqEl_false (fun e => hcq (huv.trans e))
                    have HNO : Hid (∀ i, i < s + 1 → orb ms (gt ms j).2 i ≠ (gt ms j).1) := Lib.hid (fun i hi => by
                      rcases Nat.lt_succ_iff_lt_or_eq.1 hi with h1 | rfl
                      · exact hno.out i h1
                      · exact hcq)
                    clear hcq
                    go_wp2_with fail
                    go_quiet (fail)
                    go_wp2_with fail
                    go_loopw [7] (fun i w7 => ∃ t : Nat, t ≤ ms.length ∧ Hid (∀ i, i < t → isF (u, v) (gt ms i) = false) ∧ i = .int .i64 t ∧ OwnE 2 encHandle 28 w7 g (some ⟨g, 0, none⟩) 1 [(u, v)] ∧ Below g wA w7) (fun i _ => ms.length - (intOf i).toNat)
                    case atStart => exact ⟨0, Nat.zero_le _, Lib.hid (fun j hj => absurd hj (by omega)), rfl, ho6, below_drewN hbl6 _⟩
                    case round =>
                      clear ho6 hbl6 hend a0 a1 c0 c1
                      obtain ⟨t, ht, hnt, rfl, ho7, hbl7⟩ := hrel
                      by_cases htl : t < ms.length
                      · have a0 : wr.cell? ⟨g, 0, none⟩ = some (Value.string u) := ho7.cell rfl (j := 0) (by simp)
                        have a1 : wr.cell? ⟨g, 1, none⟩ = some (Value.string v) := ho7.cell rfl (j := 1) (by simp)
                        have e0 : wr.frozen? ⟨g, 0, none⟩ = false := ho7.frozen rfl 0
                        have e1 : wr.frozen? ⟨g, 1, none⟩ = false := ho7.frozen rfl 1
                        obtain ⟨b, off, he, hb, hc⟩ := (hrA.below (hbl7.mono hBw)).at_ (by omega)
                        cases he
                        have c0 : wr.cell? ⟨b, off + t * 4, none⟩ = some (Value.string ((gt ms t).1.1)) := hc t 0 (by omega) (by omega)
                        have c1 : wr.cell? ⟨b, off + t * 4 + 1, none⟩ = some (Value.string ((gt ms t).1.2)) := hc t 1 (by omega) (by omega)
                        have c2 : wr.cell? ⟨b, off + t * 4 + 2, none⟩ = some (Value.string ((gt ms t).2.1)) := hc t 2 (by omega) (by omega)
                        have c3 : wr.cell? ⟨b, off + t * 4 + 3, none⟩ = some (Value.string ((gt ms t).2.2)) := hc t 3 (by omega) (by omega)
                        clear hc
                        have heq := fun w' => eql_Handle (gt ms t).1.1 (gt ms t).1.2 u v w'
                        by_cases hq : isF (u, v) (gt ms t) = true
                        · have q0 : eqEl (α := ElHandle) ((gt ms t).1.1, (gt ms t).1.2) (u, v) = true := hq
                          have HJ := Lib.hid (nextH_ix htl (fromIx_at htl hnt.out hq))
                          have s0 := fun (n : Nat) => Own.set (show OwnE 2 encHandle 28 (wr.drewN n) g (some ⟨g, 0, none⟩) 1 [(u, v)] from ho7) rfl (j := 0) (Value.string ((gt ms t).2.1))
                          have s1 := fun (n : Nat) => Own.set (s0 n).1 rfl (j := 1) (Value.string ((gt ms t).2.2))
                          have HS := Lib.hid (fun n => (s1 n).1)
                          have HG := Lib.hid (fun n => ((s0 n).2).trans (s1 n).2)
                          have hsz7 := hbl7.size
                          clear s0 s1 hq
                          go_wp2_with fail
                          go_quiet (fail)
                          go_wp2_with fail
                          go_roundw
                          case rel => exact ⟨s + 1, by omega, HNO, by go_num, Own.congr (HS.out _) (fun i hi => by
                            rw [orb_succ, huv, HJ.out]
                            have hi2 : i < 2 := (by simpa using hi)
                            rcases (by omega : i = 0 ∨ i = 1) with rfl | rfl <;> rfl), (below_drewN hbl7 _).trans (grown_below (HG.out _) (fun b hb => by simp [blk] at hb; omega) (Nat.le_trans (Nat.le_of_lt hzA) hsz7))⟩
                          case measure => simp [intOf]; omega
                        · have hq' : isF (u, v) (gt ms t) = false := by simpa using hq
                          have q0 : eqEl (α := ElHandle) ((gt ms t).1.1, (gt ms t).1.2) (u, v) = false := hq'
                          have HNT : Hid (∀ i, i < t + 1 → isF (u, v) (gt ms i) = false) := Lib.hid (fun i hi => by
                            rcases Nat.lt_succ_iff_lt_or_eq.1 hi with h1 | rfl
                            · exact hnt.out i h1
                            · exact hq')
                          clear hq hq'
                          go_wp2_with fail
                          go_quiet (fail)
                          go_wp2_with fail
                          go_roundw
                          case rel => exact ⟨t + 1, by omega, HNT, by go_num, ho7, below_drewN hbl7 _⟩
                          case measure => simp [intOf]; omega
                      · obtain rfl : t = ms.length := by omega
                        have HJ := Lib.hid (nextH_no (ms := ms) (h := (u, v)) (by rw [fromIx_none hnt.out]; omega))
                        go_wp2_with fail
                        go_roundw
                        case rel => exact ⟨s + 1, by omega, HNO, by go_num, (by rw [orb_succ, huv, HJ.out]; exact ho7), hbl7⟩
                        case measure => simp [intOf]; omega
                · have hsd : decide ((s : Int) ≤ (ms.length : Int)) = false := decide_eq_false (by omega)
                  have HN := Lib.hid (upTo_succ (Ok := OkM) hok.out ⟨q1, q2, hdj.out, fun i hi => hno.out i (by omega)⟩)
                  go_wp2_with fail
                  go_roundw
                  case rel => exact ⟨j + 1, by omega, HN, by go_num, hend⟩
                  case measure => simp [intOf]; omega
        · have q2' : hvB ((gt ms k).2.1, (gt ms k).2.2) = false := by simpa using q2
          have HQ := Lib.hid (vdB_bad (Ok := OkM) (mx := 8) hlt (fun hk => q2 hk.2.1))
          clear q2
          go_wp2_with fail
          refine (specHandleValid_b _ _ _ z2 z3).mono ?_
          rintro e w2 ⟨rfl, hb2⟩
          go_wp2_with fail
          go_ret
          exact ⟨ret_bool HQ.out.symm, hbl1.trans (hb2.mono hbl1.size)⟩
      · have q1' : hvB ((gt ms k).1.1, (gt ms k).1.2) = false := by simpa using q1
        have HQ := Lib.hid (vdB_bad (Ok := OkM) (mx := 8) hlt (fun hk => q1 hk.1))
        clear q1
        go_wp2_with fail
        refine (specHandleValid_b _ _ _ z0 z1).mono ?_
        rintro e w1 ⟨rfl, hb1⟩
        go_wp2_with fail
        go_ret
        exact ⟨ret_bool HQ.out.symm, hbl.trans (hb1.mono hbl.size)⟩
    · obtain rfl : k = ms.length := by omega
      go_wp2_with fail
      go_ret
      exact ⟨ret_bool (vdB_all (Ok := OkM) hok.out), hbl⟩
end Go.Proofs.Ytdcppbaahoimfaa
