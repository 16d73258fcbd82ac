import Derived.Test.YtgogkdenolkfjaaReportPlain
import Derived.Test.YtgogkdenolkfjaaSpecWord
import Derived.Test.YtgogkdenolkfjaaTail
namespace Go.Proofs.Ytgogkdenolkfjaa
open Go.RowKit
set_option maxHeartbeats 400000 in
theorem reportOf_any (A : Option Addr) (cap B : Nat) (rs : List ElReport) (what : ByteArray) (w : World) (h : RdE 3 encReport w B A rs) (hB : B ≤ w.heap.size) (hl : rs.length ≤ 140737488351232) :
    Calls Try.prog 36 #[.slice A rs.length cap, .string what] w fun e w' => e = .returned (.int .i64 (reportIx rs what)) ∧ Below w.heap.size w w' := by
  go_enter Try.func36, Try.ntmps36
  go_wp2_with fail
  go_loopw [9] (fun i wr => ∃ k : Nat, k ≤ rs.length ∧ Hid (∀ j, j < k → isR what (gt rs j) = false) ∧ i = .int .i64 k ∧ Below w.heap.size w wr) (fun i _ => rs.length - (intOf i).toNat)
  case atStart => exact ⟨0, Nat.zero_le _, Lib.hid (fun j hj => absurd hj (by omega)), rfl, Below.refl _ _⟩
  case round =>
    obtain ⟨k, hk, hno, rfl, hbl⟩ := hrel
    by_cases hlt : k < rs.length
    · obtain ⟨b, off, rfl, hb, hc⟩ := (h.below (hbl.mono hB)).at_ (by omega)
      have e0 : (wr.alloc (.cells #[.string ((gt rs k).1), .int .i64 ((gt rs k).2.1), .bool ((gt rs k).2.2)] 34)).cell? ⟨wr.heap.size, 0, none⟩ = some (Value.string ((gt rs k).1)) := by rw [World.cell?_alloc_at _ _ _ _ rfl]; rfl
      have e1 : (wr.alloc (.cells #[.string ((gt rs k).1), .int .i64 ((gt rs k).2.1), .bool ((gt rs k).2.2)] 34)).cell? ⟨wr.heap.size, 1, none⟩ = some (Value.int .i64 ((gt rs k).2.1)) := by rw [World.cell?_alloc_at _ _ _ _ rfl]; rfl
      have e2 : (wr.alloc (.cells #[.string ((gt rs k).1), .int .i64 ((gt rs k).2.1), .bool ((gt rs k).2.2)] 34)).cell? ⟨wr.heap.size, 2, none⟩ = some (Value.bool ((gt rs k).2.2)) := by rw [World.cell?_alloc_at _ _ _ _ rfl]; rfl
      have c0 : wr.cell? ⟨b, off + k * 3, none⟩ = some (Value.string ((gt rs k).1)) := hc k 0 (by omega) (by omega)
      have c1 : wr.cell? ⟨b, off + k * 3 + 1, none⟩ = some (Value.int .i64 ((gt rs k).2.1)) := hc k 1 (by omega) (by omega)
      have c2 : wr.cell? ⟨b, off + k * 3 + 2, none⟩ = some (Value.bool ((gt rs k).2.2)) := hc k 2 (by omega) (by omega)
      clear hc
      by_cases hq : isR what (gt rs k) = true
      · have q0 : ((gt rs k).1.toList == what.toList) = true := by rw [seq_eql]; exact hq
        have HQ := Lib.hid (ix_at hlt hno.out hq)
        clear hq
        go_wp2_with fail
        go_ret
        exact ⟨ret_int HQ.out.symm, hbl.alloc hbl.size _⟩
      · have hq' : isR what (gt rs k) = false := by simpa using hq
        have q0 : ((gt rs k).1.toList == what.toList) = false := by rw [seq_eql]; exact hq'
        clear hq
        go_wp2_with fail
        go_roundw
        case rel => exact ⟨k + 1, by omega, Lib.hid (fun j hj => by
          rcases Nat.lt_succ_iff_lt_or_eq.1 hj with h1 | rfl
          · exact hno.out j h1
          · exact hq'), by go_num, hbl.alloc hbl.size _⟩
        case measure => simp [intOf]; omega
    · obtain rfl : k = rs.length := by omega
      go_wp2_with fail
      go_ret
      exact ⟨ret_int (ix_none hno.out).symm, hbl⟩
set_option maxHeartbeats 1600000 in
theorem specReportsValid_any (A : Option Addr) (cap B : Nat) (rs : List ElReport) (w : World) (h : RdE 3 encReport w B A rs) (hB : B ≤ w.heap.size) (hl : rs.length ≤ 140737488351232) (hsz : ∀ k, k < rs.length → (gt rs k).1.size ≤ maxLen) :
    Calls Try.prog 12 #[.slice A rs.length cap] w fun e w' => e = .returned (.bool (rvB rs)) ∧ Below w.heap.size w w' := by
  have HD := Lib.hid hsz
  clear hsz
  go_enter Try.func12, Try.ntmps12
  go_wp2_with fail
  go_loopw [3] (fun i wr => ∃ k : Nat, k ≤ rs.length ∧ Hid (upTo OkR rs k) ∧ i = .int .i64 k ∧ Below w.heap.size w wr) (fun i _ => rs.length - (intOf i).toNat)
  case atStart => exact ⟨0, Nat.zero_le _, Lib.hid upTo_zero, rfl, Below.refl _ _⟩
  case round =>
    obtain ⟨k, hk, hok, rfl, hbl⟩ := hrel
    by_cases hlt : k < rs.length
    · have hz := HD.out k hlt
      obtain ⟨b, off, rfl, hb, hc⟩ := (h.below (hbl.mono hB)).at_ (by omega)
      have c0 : wr.cell? ⟨b, off + k * 3, none⟩ = some (Value.string ((gt rs k).1)) := hc k 0 (by omega) (by omega)
      have c1 : wr.cell? ⟨b, off + k * 3 + 1, none⟩ = some (Value.int .i64 ((gt rs k).2.1)) := hc k 1 (by omega) (by omega)
      have HC := Lib.hid hc
      clear hc
      by_cases ha : wordB (gt rs k).1 = true
      · by_cases hb2 : inB (gt rs k).2.1 1 1000 = true
        · go_wp2_with (first | (go_at_call 31; refine (specWordValid_any _ _ hz).mono ?_; rintro e w' ⟨rfl, rfl⟩) | (go_at_call 32; refine (l1In_any _ _ _ _).mono ?_; rintro e w' ⟨rfl, rfl⟩))
          obtain ⟨wo, rfl⟩ : ∃ wo : World, wo = wr := ⟨_, rfl⟩
          have hblo := hbl
          have HCo := HC
          clear HC hbl
          go_loopw [4] (fun i wr => ∃ j : Nat, j ≤ k ∧ Hid (∀ q, q < j → (gt rs q).1 ≠ (gt rs k).1) ∧ i = .int .i64 j ∧ Below wo.heap.size wo wr) (fun i _ => k - (intOf i).toNat)
          case atStart => exact ⟨0, Nat.zero_le _, Lib.hid (fun j hj => absurd hj (by omega)), rfl, Below.refl _ _⟩
          case round =>
            obtain ⟨j, hj, hdj, rfl, hbi⟩ := hrel
            have hbw := hblo.trans (hbi.mono hblo.size)
            have hbsz : b < wo.heap.size := by have := hblo.size; omega
            by_cases hjk : j < k
            · have d0 : wr.cell? ⟨b, off + j * 3, none⟩ = some (Value.string ((gt rs j).1)) := (hbi.cell (by exact hbsz)).trans (HCo.out j 0 (by omega) (by omega))
              have d1 : wr.cell? ⟨b, off + k * 3, none⟩ = some (Value.string ((gt rs k).1)) := (hbi.cell (by exact hbsz)).trans (HCo.out k 0 (by omega) (by omega))
              have hjl : j < rs.length := by omega
              by_cases hq : (gt rs j).1 = (gt rs k).1
              · have q0 : ((gt rs j).1.toList == (gt rs k).1.toList) = true := by rw [seq_eql]; exact seq_true.2 hq
                have HQ := Lib.hid (vdB_bad (Ok := OkR) (mx := 8) hlt (fun hk => hk.2.2 j hjk hq))
                clear hq
                go_wp2_with fail
                go_quiet (fail)
                go_wp2_with fail
                go_ret
                exact ⟨ret_bool HQ.out.symm, below_drewN hbw _⟩
              · have q0 : ((gt rs j).1.toList == (gt rs k).1.toList) = false := by rw [seq_eql]; exact seq_false.2 hq
                have HJ : Hid (∀ q, q < j + 1 → (gt rs q).1 ≠ (gt rs k).1) := Lib.hid (fun q hq1 => by
                  rcases Nat.lt_succ_iff_lt_or_eq.1 hq1 with h1 | rfl
                  · exact hdj.out q h1
                  · exact hq)
                clear hq
                go_wp2_with fail
                go_quiet (fail)
                go_wp2_with fail
                go_roundw
                case rel => exact ⟨j + 1, by omega, HJ, by go_num, below_drewN hbi _⟩
                case measure => simp [intOf]; omega
            · obtain rfl : j = k := by omega
              have HN := Lib.hid (upTo_succ hok.out ⟨ha, hb2, hdj.out⟩)
              go_wp2_with fail
              go_roundw
              case rel => exact ⟨j + 1, by omega, HN, by go_num, hbw⟩
              case measure => simp [intOf]; omega
        · have hb2n : inB (gt rs k).2.1 1 1000 = false := by simpa using hb2
          have HQ := Lib.hid (vdB_bad (Ok := OkR) (mx := 8) hlt (fun hk => hb2 hk.2.1))
          clear hb2
          go_wp2_with (first | (go_at_call 31; refine (specWordValid_any _ _ hz).mono ?_; rintro e w' ⟨rfl, rfl⟩) | (go_at_call 32; refine (l1In_any _ _ _ _).mono ?_; rintro e w' ⟨rfl, rfl⟩))
          go_ret
          exact ⟨ret_bool HQ.out.symm, hbl⟩
      · have han : wordB (gt rs k).1 = false := by simpa using ha
        have HQ := Lib.hid (vdB_bad (Ok := OkR) (mx := 8) hlt (fun hk => ha hk.1))
        clear ha
        go_wp2_with (go_at_call 31; refine (specWordValid_any _ _ hz).mono ?_; rintro e w' ⟨rfl, rfl⟩)
        go_ret
        exact ⟨ret_bool HQ.out.symm, hbl⟩
    · obtain rfl : k = rs.length := by omega
      go_wp2_with fail
      go_ret
      exact ⟨ret_bool (vdB_all hok.out), hbl⟩
set_option maxHeartbeats 1600000 in
theorem implReportsValid_any (A : Option Addr) (cap B : Nat) (rs : List ElReport) (w : World) (h : RdE 3 encReport w B A rs) (hB : B ≤ w.heap.size) (hl : rs.length ≤ 140737488351232) (hcap : rs.length ≤ cap) (hsz : ∀ k, k < rs.length → (gt rs k).1.size ≤ maxLen) :
    Calls Try.prog 14 #[.slice A rs.length cap] w fun e w' => e = .returned (.bool (rvB rs)) ∧ Below w.heap.size w w' := by
  by_cases hlen : rs.length ≤ 8
  · have hd : decide (8 < (rs.length : Int)) = false := decide_eq_false (by omega)
    have HD := Lib.hid hsz
    clear hsz
    go_enter Try.func14, Try.ntmps14
    go_wp2_with fail
    go_loopw [10] (fun i wr => ∃ k : Nat, k ≤ rs.length ∧ Hid (upTo OkR rs k) ∧ i = .int .i64 k ∧ Below w.heap.size w wr) (fun i _ => rs.length - (intOf i).toNat)
    case atStart => exact ⟨0, Nat.zero_le _, Lib.hid upTo_zero, rfl, Below.refl _ _⟩
    case round =>
      obtain ⟨k, hk, hok, rfl, hbl⟩ := hrel
      by_cases hlt : k < rs.length
      · have hz := HD.out k hlt
        have hrW := (h.below (hbl.mono hB)).alloc (Nat.le_trans hB hbl.size) (.cells #[.string ((gt rs k).1), .int .i64 ((gt rs k).2.1), .bool ((gt rs k).2.2)] 34)
        obtain ⟨b, off, rfl, hb, hc⟩ := (h.below (hbl.mono hB)).at_ (by omega)
        have hbs : b < wr.heap.size := by have := hbl.size; omega
        have e0 : (wr.alloc (.cells #[.string ((gt rs k).1), .int .i64 ((gt rs k).2.1), .bool ((gt rs k).2.2)] 34)).cell? ⟨wr.heap.size, 0, none⟩ = some (Value.string ((gt rs k).1)) := by rw [World.cell?_alloc_at _ _ _ _ rfl]; rfl
        have e1 : (wr.alloc (.cells #[.string ((gt rs k).1), .int .i64 ((gt rs k).2.1), .bool ((gt rs k).2.2)] 34)).cell? ⟨wr.heap.size, 1, none⟩ = some (Value.int .i64 ((gt rs k).2.1)) := by rw [World.cell?_alloc_at _ _ _ _ rfl]; rfl
        have e2 : (wr.alloc (.cells #[.string ((gt rs k).1), .int .i64 ((gt rs k).2.1), .bool ((gt rs k).2.2)] 34)).cell? ⟨wr.heap.size, 2, none⟩ = some (Value.bool ((gt rs k).2.2)) := by rw [World.cell?_alloc_at _ _ _ _ rfl]; rfl
        have c0 : wr.cell? ⟨b, off + k * 3, none⟩ = some (Value.string ((gt rs k).1)) := hc k 0 (by omega) (by omega)
        have c1 : wr.cell? ⟨b, off + k * 3 + 1, none⟩ = some (Value.int .i64 ((gt rs k).2.1)) := hc k 1 (by omega) (by omega)
        have c2 : wr.cell? ⟨b, off + k * 3 + 2, none⟩ = some (Value.bool ((gt rs k).2.2)) := hc k 2 (by omega) (by omega)
        have hsz1 : wr.heap.size < (wr.alloc (.cells #[.string ((gt rs k).1), .int .i64 ((gt rs k).2.1), .bool ((gt rs k).2.2)] 34)).heap.size := by simp
        have hblW := hbl.alloc hbl.size (.cells #[.string ((gt rs k).1), .int .i64 ((gt rs k).2.1), .bool ((gt rs k).2.2)] 34)
        have hsl := fun W => run_upto (P := Try.prog) Try.underlying25 info_Report (some ⟨b, off, none⟩) rs.length cap k (by omega) W
        clear hc
        by_cases ha : wordB (gt rs k).1 = true
        · by_cases hb2 : inB (gt rs k).2.1 1 1000 = true
          · have hlk : (rs.take k).length = k := by simp; omega
            have hcall := fun (u : World) (hu : Below (wr.alloc (.cells #[.string ((gt rs k).1), .int .i64 ((gt rs k).2.1), .bool ((gt rs k).2.2)] 34)).heap.size (wr.alloc (.cells #[.string ((gt rs k).1), .int .i64 ((gt rs k).2.1), .bool ((gt rs k).2.2)] 34)) u) => reportOf_any (tlA (some ⟨b, off, none⟩) cap 0 3) cap B (rs.take k) (gt rs k).1 u ((RdE.head hrW cap k).below (hu.mono (Nat.le_trans hB (Nat.le_trans hbl.size (Nat.le_of_lt hsz1))))) (Nat.le_trans (Nat.le_trans hB (Nat.le_trans hbl.size (Nat.le_of_lt hsz1))) hu.size) (by omega)
            rw [hlk] at hcall
            have HCL := Lib.hid hcall
            clear hcall
            by_cases hdis : ∃ j, j < k ∧ (gt rs j).1 = (gt rs k).1
            · have hge : 0 ≤ reportIx (rs.take k) (gt rs k).1 := by
                obtain ⟨j, hj, e⟩ := hdis
                exact ix_take_some (by omega) hj (seq_true.2 e)
              have hgd : decide (0 ≤ reportIx (rs.take k) (gt rs k).1) = true := decide_eq_true hge
              have HQ := Lib.hid (vdB_bad (Ok := OkR) (mx := 8) hlt (fun hk => by
                obtain ⟨j, hj, e⟩ := hdis
                exact hk.2.2 j hj e))
              clear hdis hge
              go_wp2_with fail
              generalize (wr.alloc (.cells #[.string ((gt rs k).1), .int .i64 ((gt rs k).2.1), .bool ((gt rs k).2.2)] 34)) = W at *
              refine wp_region_still_tail 16 (by kernel_rfl) (by kernel_rfl) ?_
              simp only [List.take_succ_cons, List.take_zero, List.drop_succ_cons, List.drop_zero]
              repeat (first | still_call (still_of (implWordValid_any _ _ hz)) | still_call (still_of (within_any _ _ _ _)) | still_step)
              refine wpStill_nil ?_
              go_wp2_with (go_at_call 36; refine (HCL.out _ (below_drew1 _)).mono ?_; rintro e w1 ⟨rfl, hb1⟩)
              go_ret
              exact ⟨ret_bool HQ.out.symm, hblW.trans (((below_drew1 _).trans hb1).mono hblW.size)⟩
            · have hneg : reportIx (rs.take k) (gt rs k).1 = -1 := ix_take_none (by omega) (fun j hj => seq_false.2 (fun e => hdis ⟨j, hj, e⟩))
              have hdj : ∀ j, j < k → (gt rs j).1 ≠ (gt rs k).1 := fun j hj e => hdis ⟨j, hj, e⟩
              have HDJ := Lib.hid hdj
              clear hdj hdis
              rw [hneg] at HCL
              clear hneg
              have HN := Lib.hid (upTo_succ hok.out ⟨ha, hb2, HDJ.out⟩)
              go_wp2_with fail
              generalize (wr.alloc (.cells #[.string ((gt rs k).1), .int .i64 ((gt rs k).2.1), .bool ((gt rs k).2.2)] 34)) = W at *
              refine wp_region_still_tail 16 (by kernel_rfl) (by kernel_rfl) ?_
              simp only [List.take_succ_cons, List.take_zero, List.drop_succ_cons, List.drop_zero]
              repeat (first | still_call (still_of (implWordValid_any _ _ hz)) | still_call (still_of (within_any _ _ _ _)) | still_step)
              refine wpStill_nil ?_
              go_wp2_with (go_at_call 36; refine (HCL.out _ (below_drew1 _)).mono ?_; rintro e w1 ⟨rfl, hb1⟩)
              go_roundw
              case rel => exact ⟨k + 1, by omega, HN, by go_num, hblW.trans (((below_drew1 _).trans hb1).mono hblW.size)⟩
              case measure => simp [intOf]; omega
          · have hb2n : inB (gt rs k).2.1 1 1000 = false := by simpa using hb2
            have HQ := Lib.hid (vdB_bad (Ok := OkR) (mx := 8) hlt (fun hk => hb2 hk.2.1))
            clear hb2
            go_wp2_with fail
            generalize (wr.alloc (.cells #[.string ((gt rs k).1), .int .i64 ((gt rs k).2.1), .bool ((gt rs k).2.2)] 34)) = W at *
            go_quiet (first | ((go_at_call 34; exact quiet_of (implWordValid_any _ _ hz))) | ((go_at_call 35; exact quiet_of (within_any _ _ _ _))))
            go_wp2_with fail
            go_ret
            exact ⟨ret_bool HQ.out.symm, below_drewN hblW _⟩
        · have han : wordB (gt rs k).1 = false := by simpa using ha
          have HQ := Lib.hid (vdB_bad (Ok := OkR) (mx := 8) hlt (fun hk => ha hk.1))
          clear ha
          go_wp2_with fail
          generalize (wr.alloc (.cells #[.string ((gt rs k).1), .int .i64 ((gt rs k).2.1), .bool ((gt rs k).2.2)] 34)) = W at *
          go_quiet (first | ((go_at_call 34; exact quiet_of (implWordValid_any _ _ hz))) | ((go_at_call 35; exact quiet_of (within_any _ _ _ _))))
          go_wp2_with fail
          go_ret
          exact ⟨ret_bool HQ.out.symm, below_drewN hblW _⟩
      · obtain rfl : k = rs.length := by omega
        go_wp2_with fail
        go_ret
        exact ⟨ret_bool (vdB_true ⟨hlen, hok.out⟩).symm, hbl⟩
  · have hd : decide (8 < (rs.length : Int)) = true := decide_eq_true (by omega)
    have HQ := Lib.hid (vdB_long (Ok := OkR) (mx := 8) (show 8 < rs.length by omega))
    go_enter Try.func14, Try.ntmps14
    go_wp2_with fail
    go_ret
    exact ⟨ret_bool HQ.out.symm, Below.refl _ _⟩
end Go.Proofs.Ytgogkdenolkfjaa
