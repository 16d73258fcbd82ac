import Derived.Test.YtgogkdenolkfjaaReportA
import Derived.Test.YtgogkdenolkfjaaReportPlain2
import Derived.Test.YtgogkdenolkfjaaListsReport
namespace Go.Proofs.Ytgogkdenolkfjaa
open Go.RowKit
set_option maxHeartbeats 800000 in
theorem implDecideReport_any (A : Option Addr) (cap B : Nat) (rs : List ElReport) (what : ByteArray) (w : World) (h : RdE 3 encReport w B A rs) (hB : B ≤ w.heap.size) (hl : rs.length ≤ 140737488351232) (hcap : rs.length ≤ cap) (hsz : ∀ k, k < rs.length → (gt rs k).1.size ≤ maxLen) (hw : what.size ≤ maxLen) :
    Calls Try.prog 26 #[.slice A rs.length cap, .string what] w fun e w' => ∃ T' cap', e = .returned (.tuple #[.slice T' (decideOf rs what).length cap', .bool (decideOk rs what)]) ∧ OwnE 3 encReport 34 w' w.heap.size T' cap' (decideOf rs what) ∧ Below w.heap.size w w' := by
  by_cases hv : rvB rs = true
  · have h8 := rv_len hv
    go_enter Try.func26, Try.ntmps26
    go_wp2_with fail
    refine (implReportsValid_any _ _ B rs w h hB hl hcap hsz).mono ?_
    rintro e w1 ⟨rfl, hb1⟩
    have hs1 := hb1.size
    go_wp2_with fail
    refine (copyOfReport_any _ _ B rs w1 (h.below (hb1.mono hB)) (by omega)).mono ?_
    rintro e w2 ⟨T, c, rfl, hown2, hb2⟩
    have hb2w := hb1.trans (hb2.mono hs1)
    have hs2 := hb2w.size
    rcases ix_two (rs := rs) (what := what) with hix | ⟨k, hk, hix⟩
    · have hcall := reportOf_any A cap B rs what w2 (h.below (hb2w.mono hB)) (Nat.le_trans hB hs2) hl
      rw [hix] at hcall
      have HX := Lib.hid hix
      clear hix
      go_wp2_with fail
      refine hcall.mono ?_
      clear hcall
      rintro e w3 ⟨rfl, hb3⟩
      have hown3 := Own.more (base' := w.heap.size) (Own.below hown2 hb3) hs1
      have hb3w := hb2w.trans (hb3.mono hs2)
      have hs3 := hb3w.size
      clear hown2 hb2 hb1 hb3
      have HE := Lib.hid (decideOf_no hv (canIx_no HX.out))
      go_wp2_with fail
      go_ret2
      rw [HE.out.1, HE.out.2]
      exact ⟨T, c, rfl, hown3, hb3w⟩
    · have hcall := reportOf_any A cap B rs what w2 (h.below (hb2w.mono hB)) (Nat.le_trans hB hs2) hl
      rw [hix] at hcall
      have HX := Lib.hid hix
      clear hix
      go_wp2_with fail
      refine hcall.mono ?_
      clear hcall
      rintro e w3 ⟨rfl, hb3⟩
      have hown3 := Own.more (base' := w.heap.size) (Own.below hown2 hb3) hs1
      have hb3w := hb2w.trans (hb3.mono hs2)
      have hs3 := hb3w.size
      clear hown2 hb2 hb1 hb3
      obtain ⟨b0, off, rfl, hb0, hc⟩ := (h.below (hb3w.mono hB)).at_ (by omega)
      have c2 : w3.cell? ⟨b0, off + k * 3 + 2, none⟩ = some (Value.bool (gt rs k).2.2) := hc k 2 (by omega) (by omega)
      clear hc
      have k0 : decide ((k : Int) < 0) = false := decide_eq_false (by omega)
      cases hd : (gt rs k).2.2
      · rcases hown3.shape with ⟨_, h0, _⟩ | ⟨b, rfl, hbb, hbl, hcp, hmx⟩
        · omega
        · have HE := Lib.hid (decideOf_yes hv (canIx_yes HX.out hd))
          have d2 := Own.cell hown3 rfl (j := k * 3 + 2) (by omega)
          have f2 := Own.frozen hown3 rfl (k * 3 + 2)
          have hst := Own.set hown3 rfl (j := k * 3 + 2) (Value.bool true)
          have hownX : OwnE 3 encReport 34 (w3.setCell ⟨b, k * 3 + 2, none⟩ (Value.bool true)) w.heap.size (some ⟨b, 0, none⟩) c (rs.set k (done1 (gt rs k))) := OwnE.of_set hk hst.1 (fun j _ => done_cells j)
          have hbX : Below w.heap.size w (w3.setCell ⟨b, k * 3 + 2, none⟩ (Value.bool true)) := hb3w.trans (grown_below hst.2 (fun b hb => (Own.lt hown3 hb).1) hs3)
          rw [hd] at c2
          clear hst hd hown3
          go_wp2_with fail
          go_ret2
          rw [HE.out.1, HE.out.2]
          exact ⟨some ⟨b, 0, none⟩, c, by rw [List.length_set]; rfl, hownX, hbX⟩
      · have HE := Lib.hid (decideOf_no hv (canIx_done HX.out hd))
        rw [hd] at c2
        clear hd
        go_wp2_with fail
        go_ret2
        rw [HE.out.1, HE.out.2]
        exact ⟨T, c, rfl, hown3, hb3w⟩
  · have hv' : rvB rs = false := by simpa using hv
    obtain ⟨e1, e2⟩ := decideOf_bad (what := what) hv'
    rw [e1, e2]
    clear hv e1 e2
    go_enter Try.func26, Try.ntmps26
    go_wp2_with fail
    refine (implReportsValid_any _ _ B rs w h hB hl hcap hsz).mono ?_
    rintro e w1 ⟨rfl, hb1⟩
    go_wp2_with fail
    go_ret2
    exact ⟨none, 0, rfl, Own.nil _ _ _ _ _, hb1⟩
set_option maxHeartbeats 1600000 in
theorem specDecideReport_any (A : Option Addr) (cap B : Nat) (rs : List ElReport) (what : ByteArray) (w : World) (h : RdE 3 encReport w B A rs) (hB : B ≤ w.heap.size) (hl : rs.length ≤ 140737488351232) (hsz : ∀ k, k < rs.length → (gt rs k).1.size ≤ maxLen) (hw : what.size ≤ maxLen) :
    Calls Try.prog 25 #[.slice A rs.length cap, .string what] w fun e w' => ∃ T' cap', e = .returned (.tuple #[.slice T' (decideOf rs what).length cap', .bool (decideOk rs what)]) ∧ OwnE 3 encReport 34 w' w.heap.size T' cap' (decideOf rs what) ∧ Below w.heap.size w w' := by
  by_cases hv : rvB rs = true
  · have h8 := rv_len hv
    have HSZ := Lib.hid hsz
    clear hsz
    go_enter Try.func25, Try.ntmps25
    go_wp2_with fail
    refine (specReportsValid_any _ _ B rs w h hB hl HSZ.out).mono ?_
    rintro e w1 ⟨rfl, hb1⟩
    have hs1 := hb1.size
    have hempE : OwnE 3 encReport 34 ((w1).alloc (.cells #[] 34)) w.heap.size (some ⟨w1.heap.size, 0, none⟩) 0 ([] : List ElReport) := Own.more (Own.lit w1 34 3 0 #[] (cE 3 encReport ([] : List ElReport)) (Nat.zero_le _) rfl) hs1
    have hempB : Below w.heap.size w ((w1).alloc (.cells #[] 34)) := hb1.alloc hs1 _
    have hrE : RdE 3 encReport ((w1).alloc (.cells #[] 34)) B A rs := h.below (hempB.mono hB)
    go_wp2_with (at_builtin; refine wpList_app rfl (.tmp 12) (.tmp 13) _ rfl w.heap.size 34 _ 3 32 Try.underlying25 info_Report rfl (by omega) (some ⟨w1.heap.size, 0, none⟩) A 0 0 rs.length cap B (cE 3 encReport ([] : List ElReport)) (cE 3 encReport rs) rfl rfl hempE hrE (fun _ _ => encReport_one _ _) (by simp only [maxLen]; omega) (by omega) (by first | omega | (simp; done) | (simp; omega)) ?_; intro T2 cc2 w2 hown2' hg2; have hown2 := OwnE.first hown2' rfl; have hb2w := hempB.trans (grown_below hg2 (fun b hb => (Own.lt hempE hb).1) (by first | omega | (simp; done) | (simp; omega))); clear hown2' hg2)
    clear hempE hempB hrE
    go_loop [7] (fun i => ∃ j : Nat, j ≤ rs.length ∧ i = .int .i64 j ∧ Hid (∀ q, q < j → isR what (gt rs q) = true → (gt rs q).2.2 = true)) (fun i => rs.length - (intOf i).toNat)
    case atStart => exact ⟨0, Nat.zero_le _, rfl, Lib.hid (fun q hq => absurd hq (by omega))⟩
    case round =>
      obtain ⟨j, hj, rfl, HQ⟩ := hrel
      by_cases hlt : j < rs.length
      · rcases hown2.shape with ⟨_, h0, _⟩ | ⟨b, rfl, hbb, hbl, hcp, hmx⟩
        · omega
        · have c0 := Own.cell hown2 rfl (j := j * 3) (by omega)
          rw [show cE 3 encReport rs (j * 3) = Value.string (gt rs j).1 from cE_at encReport rs j (i := 0) (by omega)] at c0
          have c2 := Own.cell hown2 rfl (j := j * 3 + 2) (by omega)
          rw [cE_at encReport rs j (by omega), show encReport (gt rs j) 2 = Value.bool (gt rs j).2.2 from rfl] at c2
          by_cases hq : isR what (gt rs j) = true
          · have q0 : ((gt rs j).1.toList == what.toList) = true := by rw [seq_eql]; exact hq
            cases hd : (gt rs j).2.2
            · have HE := Lib.hid (decideOf_yes hv (can_at hv hlt hq hd))
              have f2 := Own.frozen hown2 rfl (j * 3 + 2)
              have hst := Own.set hown2 rfl (j := j * 3 + 2) (Value.bool true)
              have hownX : OwnE 3 encReport 34 (w2.setCell ⟨b, j * 3 + 2, none⟩ (Value.bool true)) w.heap.size (some ⟨b, 0, none⟩) cc2 (rs.set j (done1 (gt rs j))) := OwnE.of_set hlt hst.1 (fun i _ => done_cells i)
              have hbX : Below w.heap.size w (w2.setCell ⟨b, j * 3 + 2, none⟩ (Value.bool true)) := hb2w.trans (grown_below hst.2 (fun b hb => (Own.lt hown2 hb).1) hb2w.size)
              rw [hd] at c2
              clear hst hd hown2 hq
              go_wp2_with fail
              go_ret2
              rw [HE.out.1, HE.out.2]
              exact ⟨some ⟨b, 0, none⟩, cc2, by rw [List.length_set]; rfl, hownX, hbX⟩
            ·
              have HN : Hid (∀ q, q < j + 1 → isR what (gt rs q) = true → (gt rs q).2.2 = true) := Lib.hid (fun q hq1 hq2 => by
                rcases Nat.lt_succ_iff_lt_or_eq.1 hq1 with h1 | rfl
                · exact HQ.out q h1 hq2
                · exact hd)
              rw [hd] at c2
              clear hd hq
              go_wp2_with fail
              go_round
              case rel => exact ⟨j + 1, by omega, by go_num, HN⟩
              case measure => simp [intOf]; omega
          · have hqf : isR what (gt rs j) = false := by simpa using hq
            have q0 : ((gt rs j).1.toList == what.toList) = false := by rw [seq_eql]; exact hqf
            have HN : Hid (∀ q, q < j + 1 → isR what (gt rs q) = true → (gt rs q).2.2 = true) := Lib.hid (fun q hq1 hq2 => by
              rcases Nat.lt_succ_iff_lt_or_eq.1 hq1 with h1 | rfl
              · exact HQ.out q h1 hq2
              · exact absurd hq2 hq)
            clear hq
            go_wp2_with fail
            go_round
            case rel => exact ⟨j + 1, by omega, by go_num, HN⟩
            case measure => simp [intOf]; omega
      · obtain rfl : j = rs.length := by omega
        have HE := Lib.hid (decideOf_no hv (can_none HQ.out))
        go_wp2_with fail
        go_ret2
        rw [HE.out.1, HE.out.2]
        exact ⟨T2, cc2, by simp, hown2, hb2w⟩
  · have hv' : rvB rs = false := by simpa using hv
    obtain ⟨e1, e2⟩ := decideOf_bad (what := what) hv'
    rw [e1, e2]
    clear hv e1 e2
    go_enter Try.func25, Try.ntmps25
    go_wp2_with fail
    refine (specReportsValid_any _ _ B rs w h hB hl hsz).mono ?_
    rintro e w1 ⟨rfl, hb1⟩
    go_wp2_with fail
    go_ret2
    exact ⟨_, _, rfl, Own.more (Own.lit w1 34 3 0 #[] (cE 3 encReport ([] : List ElReport)) (Nat.zero_le _) rfl) hb1.size, hb1.alloc hb1.size _⟩
end Go.Proofs.Ytgogkdenolkfjaa
