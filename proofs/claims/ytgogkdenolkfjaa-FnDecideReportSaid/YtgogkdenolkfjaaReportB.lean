import Derived.Test.YtgogkdenolkfjaaReportA
import Derived.Test.YtgogkdenolkfjaaReportPlain2
import Derived.Test.YtgogkdenolkfjaaListsReport
namespace Go.Proofs.Ytgogkdenolkfjaa
open Go.RowKit
set_option maxHeartbeats 800000 in
theorem implAddReport_any (A : Option Addr) (cap B : Nat) (rs : List ElReport) (what : ByteArray) (w : World) (h : RdE 3 encReport w B A rs) (hB : B ≤ w.heap.size) (hl : rs.length ≤ 140737488351232) (hcap : rs.length ≤ cap) (hsz : ∀ k, k < rs.length → (gt rs k).1.size ≤ maxLen) (hw : what.size ≤ maxLen) :
    Calls Try.prog 22 #[.slice A rs.length cap, .string what] w fun e w' => ∃ T' cap', e = .returned (.tuple #[.slice T' (addOf rs what).length cap', .bool (addOk rs what)]) ∧ OwnE 3 encReport 34 w' w.heap.size T' cap' (addOf rs what) ∧ Below w.heap.size w w' := by
  by_cases hv : rvB rs = true
  · have h8 := rv_len hv
    have HSZ := Lib.hid hsz
    clear hsz
    go_enter Try.func22, Try.ntmps22
    go_wp2_with fail
    refine (implReportsValid_any _ _ B rs w h hB hl hcap HSZ.out).mono ?_
    rintro e w1 ⟨rfl, hb1⟩
    have hs1 := hb1.size
    go_wp2_with fail
    refine (copyOfReport_any _ _ B rs w1 (h.below (hb1.mono hB)) (by omega)).mono ?_
    rintro e w2 ⟨T, c, rfl, hown2, hb2⟩
    have hb2w := hb1.trans (hb2.mono hs1)
    have hs2 := hb2w.size
    rcases ix_two (rs := rs) (what := what) with hix | ⟨k, hk, hix⟩
    · have hcall := reportOf_any A cap B rs what w2 (h.below (hb2w.mono hB)) (Nat.le_trans hB hs2) hl
      rw [hix] at hcall
      have HX := Lib.hid hix
      clear hix
      go_wp2_with fail
      refine hcall.mono ?_
      clear hcall
      rintro e w3 ⟨rfl, hb3⟩
      have hown3 := Own.more (base' := w.heap.size) (Own.below hown2 hb3) hs1
      have hb3w := hb2w.trans (hb3.mono hs2)
      have hs3 := hb3w.size
      clear hown2 hb2 hb1 hb3
      go_wp2_with (at_builtin; refine wpList_app rfl (.tmp 26) (.tmp 29) _ rfl w.heap.size 34 _ 3 32 Try.underlying25 info_Report rfl (by omega) T (some ⟨w3.heap.size, 0, none⟩) rs.length c 1 1 (w3.heap.size + 1) (cE 3 encReport rs) (encReport (what, 1, false)) rfl rfl (Own.below hown3 ((Below.refl _ _).alloc (Nat.le_refl _) _)) (rd_elem _ _ _ _ (fun j hj => by rcases (by omega : j = 0 ∨ j = 1 ∨ j = 2) with rfl | rfl | rfl <;> rfl)) (fun _ _ => encReport_one _ _) (by simp only [maxLen]; omega) (by omega) (by first | omega | (simp; done) | (simp; omega)) ?_; intro T1 cap1 w4 hown4 hg4)
      have hownX : OwnE 3 encReport 34 w4 w.heap.size T1 cap1 (addR rs what) := by rw [addR_new HX.out]; exact OwnE.snoc (by omega) hown4
      have hbX := hb3w.trans (((Below.refl _ _).alloc hs3 _).trans (grown_below hg4 (fun b hb => (Own.lt hown3 hb).1) (by first | omega | (simp; done) | (simp; omega))))
      have hlen := addR_len1 HX.out
      have hszX : ∀ k, k < (addR rs what).length → (gt (addR rs what) k).1.size ≤ maxLen := by rw [addR_new HX.out]; exact add_sz HSZ.out hw
      clear hown4 hg4 hown3
      have hcall := implReportsValid_any T1 cap1 _ (addR rs what) w4 (OwnE.rd hownX) (Nat.le_refl _) (by omega) (Own.capLe hownX) hszX
      rw [hlen] at hcall
      refine hcall.mono ?_
      clear hcall
      rintro e w5 ⟨rfl, hb5⟩
      have hsX := hbX.size
      have hb5w := hbX.trans (hb5.mono hsX)
      by_cases hv2 : rvB (addR rs what) = true
      · have HE := Lib.hid (addOf_yes hv hv2)
        go_wp2_with fail
        go_ret2
        rw [HE.out.1, HE.out.2]
        exact ⟨T1, cap1, by rw [hlen]; rfl, Own.below hownX hb5, hb5w⟩
      · have hv2' : rvB (addR rs what) = false := by simpa using hv2
        have HE := Lib.hid (addOf_no hv hv2')
        clear hv2
        go_wp2_with fail
        refine (copyOfReport_any _ _ B rs w5 (h.below (hb5w.mono hB)) (by omega)).mono ?_
        rintro e w6 ⟨T6, c6, rfl, hown6, hb6⟩
        go_wp2_with fail
        go_ret2
        rw [HE.out.1, HE.out.2]
        exact ⟨T6, c6, rfl, Own.more hown6 hb5w.size, hb5w.trans (hb6.mono hb5w.size)⟩
    · have hcall := reportOf_any A cap B rs what w2 (h.below (hb2w.mono hB)) (Nat.le_trans hB hs2) hl
      rw [hix] at hcall
      have HX := Lib.hid hix
      clear hix
      go_wp2_with fail
      refine hcall.mono ?_
      clear hcall
      rintro e w3 ⟨rfl, hb3⟩
      have hown3 := Own.more (base' := w.heap.size) (Own.below hown2 hb3) hs1
      have hb3w := hb2w.trans (hb3.mono hs2)
      have hs3 := hb3w.size
      clear hown2 hb2 hb1 hb3
      rcases hown3.shape with ⟨_, h0, _⟩ | ⟨b, rfl, hbb, hbl, hcp, hmx⟩
      · omega
      · have hmany := rv_many hv hk
        have c1 : w3.cell? ⟨b, k * 3 + 1, none⟩ = some (.int .i64 (gt rs k).2.1) := by
          have := Own.cell hown3 rfl (j := k * 3 + 1) (by omega)
          rw [cE_at encReport rs k (by omega)] at this; exact this
        have f1 := Own.frozen hown3 rfl (k * 3 + 1)
        have hst := Own.set hown3 rfl (j := k * 3 + 1) (Value.int .i64 ((gt rs k).2.1 + 1))
        have hownX : OwnE 3 encReport 34 (w3.setCell ⟨b, k * 3 + 1, none⟩ (Value.int .i64 ((gt rs k).2.1 + 1))) w.heap.size (some ⟨b, 0, none⟩) c (addR rs what) := by rw [addR_old HX.out]; exact OwnE.of_set hk hst.1 (fun j _ => more_cells j)
        have hbX : Below w.heap.size w (w3.setCell ⟨b, k * 3 + 1, none⟩ (Value.int .i64 ((gt rs k).2.1 + 1))) := hb3w.trans (grown_below hst.2 (fun b hb => (Own.lt hown3 hb).1) hs3)
        have hlen := addR_len0 HX.out
        have hszX : ∀ k, k < (addR rs what).length → (gt (addR rs what) k).1.size ≤ maxLen := by rw [addR_old HX.out]; exact set_sz HSZ.out hk rfl
        have hkl : (k : Int) < (rs.length : Int) := by omega
        clear hst hown3
        go_wp2_with fail
        have hcall := implReportsValid_any (some ⟨b, 0, none⟩) c _ (addR rs what) _ (OwnE.rd hownX) (Nat.le_refl _) (by omega) (Own.capLe hownX) hszX
        rw [hlen] at hcall
        refine hcall.mono ?_
        clear hcall
        rintro e w5 ⟨rfl, hb5⟩
        have hsX := hbX.size
        have hb5w := hbX.trans (hb5.mono hsX)
        by_cases hv2 : rvB (addR rs what) = true
        · have HE := Lib.hid (addOf_yes hv hv2)
          go_wp2_with fail
          go_ret2
          rw [HE.out.1, HE.out.2]
          exact ⟨(some ⟨b, 0, none⟩), c, by rw [hlen]; rfl, Own.below hownX hb5, hb5w⟩
        · have hv2' : rvB (addR rs what) = false := by simpa using hv2
          have HE := Lib.hid (addOf_no hv hv2')
          clear hv2
          go_wp2_with fail
          refine (copyOfReport_any _ _ B rs w5 (h.below (hb5w.mono hB)) (by omega)).mono ?_
          rintro e w6 ⟨T6, c6, rfl, hown6, hb6⟩
          go_wp2_with fail
          go_ret2
          rw [HE.out.1, HE.out.2]
          exact ⟨T6, c6, rfl, Own.more hown6 hb5w.size, hb5w.trans (hb6.mono hb5w.size)⟩
  · have hv' : rvB rs = false := by simpa using hv
    obtain ⟨e1, e2⟩ := addOf_bad (what := what) hv'
    rw [e1, e2]
    clear hv e1 e2
    go_enter Try.func22, Try.ntmps22
    go_wp2_with fail
    refine (implReportsValid_any _ _ B rs w h hB hl hcap hsz).mono ?_
    rintro e w1 ⟨rfl, hb1⟩
    go_wp2_with fail
    go_ret2
    exact ⟨none, 0, rfl, Own.nil _ _ _ _ _, hb1⟩
end Go.Proofs.Ytgogkdenolkfjaa
