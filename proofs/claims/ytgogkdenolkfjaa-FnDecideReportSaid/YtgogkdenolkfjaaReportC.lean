import Derived.Test.YtgogkdenolkfjaaReportA
import Derived.Test.YtgogkdenolkfjaaReportPlain2
namespace Go.Proofs.Ytgogkdenolkfjaa
open Go.RowKit
set_option maxHeartbeats 1600000 in
theorem specAddReport_any (A : Option Addr) (cap B : Nat) (rs : List ElReport) (what : ByteArray) (w : World) (h : RdE 3 encReport w B A rs) (hB : B ≤ w.heap.size) (hl : rs.length ≤ 140737488351232) (hsz : ∀ k, k < rs.length → (gt rs k).1.size ≤ maxLen) (hw : what.size ≤ maxLen) :
    Calls Try.prog 23 #[.slice A rs.length cap, .string what] w fun e w' => ∃ T' cap', e = .returned (.tuple #[.slice T' (addOf rs what).length cap', .bool (addOk rs what)]) ∧ OwnE 3 encReport 34 w' w.heap.size T' cap' (addOf rs what) ∧ Below w.heap.size w w' := by
  by_cases hv : rvB rs = true
  · have h8 := rv_len hv
    have HSZ := Lib.hid hsz
    clear hsz
    go_enter Try.func23, Try.ntmps23
    go_wp2_with fail
    refine (specReportsValid_any _ _ B rs w h hB hl HSZ.out).mono ?_
    rintro e w1 ⟨rfl, hb1⟩
    have hs1 := hb1.size
    have hempE : OwnE 3 encReport 34 ((w1).alloc (.cells #[] 34)) w.heap.size (some ⟨w1.heap.size, 0, none⟩) 0 ([] : List ElReport) := Own.more (Own.lit w1 34 3 0 #[] (cE 3 encReport ([] : List ElReport)) (Nat.zero_le _) rfl) hs1
    have hempB : Below w.heap.size w ((w1).alloc (.cells #[] 34)) := hb1.alloc hs1 _
    have hrE : RdE 3 encReport ((w1).alloc (.cells #[] 34)) B A rs := h.below (hempB.mono hB)
    go_wp2_with (at_builtin; refine wpList_app rfl (.tmp 13) (.tmp 14) _ rfl w.heap.size 34 _ 3 32 Try.underlying25 info_Report rfl (by omega) (some ⟨w1.heap.size, 0, none⟩) A 0 0 rs.length cap B (cE 3 encReport ([] : List ElReport)) (cE 3 encReport rs) rfl rfl hempE hrE (fun _ _ => encReport_one _ _) (by simp only [maxLen]; omega) (by omega) (by first | omega | (simp; done) | (simp; omega)) ?_; intro T2 c2 w2 hown2' hg2; have hown2 := OwnE.first hown2' rfl; have hb2w := hempB.trans (grown_below hg2 (fun b hb => (Own.lt hempE hb).1) (by first | omega | (simp; done) | (simp; omega))); clear hown2' hg2)
    have hcc := Own.capLe hown2
    clear hempE hempB hrE
    rcases ix_two (rs := rs) (what := what) with hix | ⟨k0, hk0, hix⟩
    · have HX := Lib.hid hix
      clear hix
      go_loop [7, 8] (fun q i => ∃ j : Nat, j ≤ rs.length ∧ q = .bool false ∧ i = .int .i64 j) (fun _ i => rs.length - (intOf i).toNat)
      case atStart => exact ⟨0, Nat.zero_le _, rfl, rfl⟩
      case round =>
        obtain ⟨j, hj, rfl, rfl⟩ := hrel
        by_cases hlt : j < rs.length
        · rcases hown2.shape with ⟨_, h0, _⟩ | ⟨b, rfl, hbb, hbl, hcp, hmx⟩
          · omega
          · have c0 := Own.cell hown2 rfl (j := j * 3) (by omega)
            rw [show cE 3 encReport rs (j * 3) = Value.string (gt rs j).1 from cE_at encReport rs j (i := 0) (by omega)] at c0
            have q0 : ((gt rs j).1.toList == what.toList) = false := by rw [seq_eql]; exact ix_none_all HX.out hlt
            go_wp2_with fail
            go_round
            case rel => exact ⟨j + 1, by omega, rfl, by go_num⟩
            case measure => simp [intOf]; omega
        · obtain rfl : j = rs.length := by omega
          have hs2 := hb2w.size
          go_wp2_with (at_builtin; refine wpList_app rfl (.tmp 41) (.tmp 44) _ rfl w.heap.size 34 _ 3 32 Try.underlying25 info_Report rfl (by omega) T2 (some ⟨w2.heap.size, 0, none⟩) rs.length c2 1 1 (w2.heap.size + 1) (cE 3 encReport rs) (encReport (what, 1, false)) rfl rfl (Own.below hown2 ((Below.refl _ _).alloc (Nat.le_refl _) _)) (rd_elem _ _ _ _ (fun j hj => by rcases (by omega : j = 0 ∨ j = 1 ∨ j = 2) with rfl | rfl | rfl <;> rfl)) (fun _ _ => encReport_one _ _) (by simp only [maxLen]; omega) (by omega) (by first | omega | (simp; done) | (simp; omega)) ?_; intro T1 cap1 w4 hown4 hg4)
          have hownX : OwnE 3 encReport 34 w4 w.heap.size T1 cap1 (addR rs what) := by rw [addR_new HX.out]; exact OwnE.snoc (by omega) hown4
          have hbX := hb2w.trans (((Below.refl _ _).alloc hs2 _).trans (grown_below hg4 (fun b hb => (Own.lt hown2 hb).1) (by first | omega | (simp; done) | (simp; omega))))
          have hlen := addR_len1 HX.out
          have hszX : ∀ k, k < (addR rs what).length → (gt (addR rs what) k).1.size ≤ maxLen := by rw [addR_new HX.out]; exact add_sz HSZ.out hw
          clear hown4 hg4 hown2
          have hcall := specReportsValid_any T1 cap1 _ (addR rs what) w4 (OwnE.rd hownX) (Nat.le_refl _) (by have := hlen; omega) hszX
          rw [hlen] at hcall
          refine hcall.mono ?_
          clear hcall
          rintro e w5 ⟨rfl, hb5⟩
          have hsX := hbX.size
          have hb5w := hbX.trans (hb5.mono hsX)
          by_cases hv2 : rvB (addR rs what) = true
          · have HE := Lib.hid (addOf_yes hv hv2)
            go_wp2_with fail
            go_ret2
            rw [HE.out.1, HE.out.2]
            exact ⟨T1, cap1, by rw [hlen]; rfl, Own.below hownX hb5, hb5w⟩
          · have hv2' : rvB (addR rs what) = false := by simpa using hv2
            have HE := Lib.hid (addOf_no hv hv2')
            clear hv2
            have hs5 := hb5w.size
            have hempE : OwnE 3 encReport 34 ((w5).alloc (.cells #[] 34)) w.heap.size (some ⟨w5.heap.size, 0, none⟩) 0 ([] : List ElReport) := Own.more (Own.lit w5 34 3 0 #[] (cE 3 encReport ([] : List ElReport)) (Nat.zero_le _) rfl) hb5w.size
            have hempB : Below w.heap.size w ((w5).alloc (.cells #[] 34)) := hb5w.alloc hb5w.size _
            have hrE : RdE 3 encReport ((w5).alloc (.cells #[] 34)) B A rs := h.below (hempB.mono hB)
            go_wp2_with (at_builtin; refine wpList_app rfl (.tmp 49) (.tmp 50) _ rfl w.heap.size 34 _ 3 32 Try.underlying25 info_Report rfl (by omega) (some ⟨w5.heap.size, 0, none⟩) A 0 0 rs.length cap B (cE 3 encReport ([] : List ElReport)) (cE 3 encReport rs) rfl rfl hempE hrE (fun _ _ => encReport_one _ _) (by simp only [maxLen]; omega) (by omega) (by first | omega | (simp; done) | (simp; omega)) ?_; intro T6 c6 w6 hown6' hg6; have hown6 := OwnE.first hown6' rfl; have hb6w := hempB.trans (grown_below hg6 (fun b hb => (Own.lt hempE hb).1) (by first | omega | (simp; done) | (simp; omega))); clear hown6' hg6)
            go_ret2
            rw [HE.out.1, HE.out.2]
            exact ⟨T6, c6, by simp, hown6, hb6w⟩
    · have HX := Lib.hid hix
      clear hix
      rcases hown2.shape with ⟨_, h0, _⟩ | ⟨b, rfl, hbb, hbl0, hcp, hmx⟩
      · omega
      ·
        go_loopw [7, 8] (fun q i wr => ∃ j : Nat, j ≤ rs.length ∧ q = .bool (decide (k0 < j)) ∧ i = .int .i64 j ∧ OwnE 3 encReport 34 wr w.heap.size (some ⟨b, 0, none⟩) c2 (addAt rs k0 j) ∧ Below w.heap.size w wr) (fun _ i _ => rs.length - (intOf i).toNat)
        case atStart => exact ⟨0, Nat.zero_le _, rfl, rfl, by rw [addAt_lo (Nat.zero_le _)]; exact hown2, hb2w⟩
        case round =>
          obtain ⟨j, hj, rfl, rfl, hown, hbl⟩ := hrel
          have hlen := addAt_len rs k0 j
          have hsz := hbl.size
          by_cases hlt : j < rs.length
          · have c0 := Own.cell hown rfl (j := j * 3) (by rw [hlen]; omega)
            rw [show cE 3 encReport (addAt rs k0 j) (j * 3) = Value.string (gt rs j).1 from (cE_at encReport (addAt rs k0 j) j (i := 0) (by omega)).trans (congrArg Value.string (addAt_what hk0 j))] at c0
            have HL := Lib.hid hlen
            clear hlen
            by_cases he : j = k0
            · subst he
              have q0 : ((gt rs j).1.toList == what.toList) = true := by rw [seq_eql]; exact (ix_is HX.out).2
              have hmany := rv_many hv hlt
              rw [addAt_lo (Nat.le_refl _)] at hown
              have c1 : wr.cell? ⟨b, j * 3 + 1, none⟩ = some (.int .i64 (gt rs j).2.1) := by
                have := Own.cell hown rfl (j := j * 3 + 1) (by omega)
                rw [cE_at encReport rs j (by omega)] at this; exact this
              have f1 := Own.frozen hown rfl (j * 3 + 1)
              have hst := Own.set hown rfl (j := j * 3 + 1) (Value.int .i64 ((gt rs j).2.1 + 1))
              have hownX : OwnE 3 encReport 34 (wr.setCell ⟨b, j * 3 + 1, none⟩ (Value.int .i64 ((gt rs j).2.1 + 1))) w.heap.size (some ⟨b, 0, none⟩) c2 (addAt rs j (j + 1)) := by rw [addAt_hi (Nat.lt_succ_self _)]; exact OwnE.of_set hlt hst.1 (fun i _ => more_cells i)
              have hbX : Below w.heap.size w (wr.setCell ⟨b, j * 3 + 1, none⟩ (Value.int .i64 ((gt rs j).2.1 + 1))) := hbl.trans (grown_below hst.2 (fun b hb => (Own.lt hown hb).1) hsz)
              clear hst hown hbl
              go_wp2_with fail
              go_roundw
              case rel => exact ⟨j + 1, by omega, by simp, by go_num, hownX, hbX⟩
              case measure => simp [intOf]; omega
            · have q0 : ((gt rs j).1.toList == what.toList) = false := by rw [seq_eql]; exact ix_other hv HX.out hlt he
              have hA : addAt rs k0 (j + 1) = addAt rs k0 j := by
                rcases Nat.lt_or_ge k0 j with h1 | h1
                · rw [addAt_hi h1, addAt_hi (by omega)]
                · rw [addAt_lo h1, addAt_lo (by omega)]
              have HA := Lib.hid hA
              have hD : decide (k0 < j) = decide (k0 < j + 1) := decide_eq_decide.2 (by omega)
              have HD := Lib.hid hD
              clear hA hD he
              go_wp2_with fail
              go_roundw
              case rel => exact ⟨j + 1, by omega, by rw [HD.out], by go_num, by rw [HA.out]; exact hown, hbl⟩
              case measure => simp [intOf]; omega
          · obtain rfl : j = rs.length := by omega
            have hd : decide (k0 < rs.length) = true := by simp [hk0]
            have hownX : OwnE 3 encReport 34 wr w.heap.size (some ⟨b, 0, none⟩) c2 (addR rs what) := by rw [addR_old HX.out]; rw [addAt_hi hk0] at hown; exact hown
            have hbX := hbl
            have hlenX := addR_len0 HX.out
            have hszX : ∀ k, k < (addR rs what).length → (gt (addR rs what) k).1.size ≤ maxLen := by rw [addR_old HX.out]; exact set_sz HSZ.out hk0 rfl
            have HLX := Lib.hid hlenX
            clear hown hbl hlenX hlen hown2 hb2w
            go_wp2_with fail
            have hcall := specReportsValid_any (some ⟨b, 0, none⟩) c2 _ (addR rs what) _ (OwnE.rd hownX) (Nat.le_refl _) (by have := HLX.out; omega) hszX
            rw [HLX.out] at hcall
            refine hcall.mono ?_
            clear hcall
            rintro e w5 ⟨rfl, hb5⟩
            have hsX := hbX.size
            have hb5w := hbX.trans (hb5.mono hsX)
            by_cases hv2 : rvB (addR rs what) = true
            · have HE := Lib.hid (addOf_yes hv hv2)
              go_wp2_with fail
              go_ret2
              rw [HE.out.1, HE.out.2]
              exact ⟨(some ⟨b, 0, none⟩), c2, by rw [HLX.out]; rfl, Own.below hownX hb5, hb5w⟩
            · have hv2' : rvB (addR rs what) = false := by simpa using hv2
              have HE := Lib.hid (addOf_no hv hv2')
              clear hv2
              have hs5 := hb5w.size
              have hempE : OwnE 3 encReport 34 ((w5).alloc (.cells #[] 34)) w.heap.size (some ⟨w5.heap.size, 0, none⟩) 0 ([] : List ElReport) := Own.more (Own.lit w5 34 3 0 #[] (cE 3 encReport ([] : List ElReport)) (Nat.zero_le _) rfl) hb5w.size
              have hempB : Below w.heap.size w ((w5).alloc (.cells #[] 34)) := hb5w.alloc hb5w.size _
              have hrE : RdE 3 encReport ((w5).alloc (.cells #[] 34)) B A rs := h.below (hempB.mono hB)
              go_wp2_with (at_builtin; refine wpList_app rfl (.tmp 49) (.tmp 50) _ rfl w.heap.size 34 _ 3 32 Try.underlying25 info_Report rfl (by omega) (some ⟨w5.heap.size, 0, none⟩) A 0 0 rs.length cap B (cE 3 encReport ([] : List ElReport)) (cE 3 encReport rs) rfl rfl hempE hrE (fun _ _ => encReport_one _ _) (by simp only [maxLen]; omega) (by omega) (by first | omega | (simp; done) | (simp; omega)) ?_; intro T6 c6 w6 hown6' hg6; have hown6 := OwnE.first hown6' rfl; have hb6w := hempB.trans (grown_below hg6 (fun b hb => (Own.lt hempE hb).1) (by first | omega | (simp; done) | (simp; omega))); clear hown6' hg6)
              go_ret2
              rw [HE.out.1, HE.out.2]
              exact ⟨T6, c6, by simp, hown6, hb6w⟩
  · have hv' : rvB rs = false := by simpa using hv
    obtain ⟨e1, e2⟩ := addOf_bad (what := what) hv'
    rw [e1, e2]
    clear hv e1 e2
    go_enter Try.func23, Try.ntmps23
    go_wp2_with fail
    refine (specReportsValid_any _ _ B rs w h hB hl hsz).mono ?_
    rintro e w1 ⟨rfl, hb1⟩
    go_wp2_with fail
    go_ret2
    exact ⟨_, _, rfl, Own.more (Own.lit w1 34 3 0 #[] (cE 3 encReport ([] : List ElReport)) (Nat.zero_le _) rfl) hb1.size, hb1.alloc hb1.size _⟩
end Go.Proofs.Ytgogkdenolkfjaa
