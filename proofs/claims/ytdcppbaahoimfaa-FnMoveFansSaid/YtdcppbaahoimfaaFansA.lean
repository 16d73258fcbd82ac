import Derived.Test.YtdcppbaahoimfaaFansPlain
import Derived.Test.YtdcppbaahoimfaaWhereA
import Derived.Test.YtdcppbaahoimfaaFollowE
import Derived.Test.YtdcppbaahoimfaaRegB
namespace Go.Proofs.Ytdcppbaahoimfaa
open Go.RowKit
theorem word_sz {s : ByteArray} (h : wordB s = true) : s.size ≤ maxLen := by
  rcases Nat.lt_or_ge 8 s.size with q | q
  · rw [wordB_size (.inr q)] at h; cases h
  · simp only [maxLen]; omega
theorem hv_sz {x : ElHandle} (h : hvB x = true) : x.1.size ≤ maxLen ∧ x.2.size ≤ maxLen := by
  rw [hvB_eq, Bool.and_eq_true] at h
  exact ⟨word_sz h.1, word_sz h.2⟩
theorem mfTo_sz {ms : List ElMove} {fs : List ElHandle} (hm : mvB ms = true) (hf : fvB fs = true) {k : Nat} (hk : k ≤ fs.length) : ∀ j, j < (mfTo ms fs k).length → (gt (mfTo ms fs k) j).1.size ≤ maxLen ∧ (gt (mfTo ms fs k) j).2.size ≤ maxLen :=
  fun j hj => hv_sz (mfTo_mem hm hf hk (gt_mem hj)).1
theorem mfTo_stay {ms : List ElMove} {fs : List ElHandle} {k : Nat} (h : folOk (mfTo ms fs k) (whereOf ms (gt fs k)) = false) : mfTo ms fs (k + 1) = mfTo ms fs k := by
  rw [mfTo_succ]
  have hv := mfTo_valid ms fs k
  unfold folOk at h
  rw [hv, Bool.true_and] at h
  exact (folOf_no hv h).1
set_option maxRecDepth 100000 in
set_option maxHeartbeats 1600000 in
theorem implMoveFans_any (A C : Option Addr) (capA capC B : Nat) (ms : List ElMove) (fs : List ElHandle) (w : World) (h : RdE 4 encMove w B A ms) (hC : RdE 2 encHandle w B C fs) (hB : B ≤ w.heap.size) (hl : ms.length ≤ 140737488351232) (hl2 : fs.length ≤ 140737488351232) (hcap : ms.length ≤ capA) (hsz : ∀ k, k < ms.length → (gt ms k).1.1.size ≤ maxLen ∧ (gt ms k).1.2.size ≤ maxLen ∧ (gt ms k).2.1.size ≤ maxLen ∧ (gt ms k).2.2.size ≤ maxLen) (hsz2 : ∀ k, k < fs.length → (gt fs k).1.size ≤ maxLen ∧ (gt fs k).2.size ≤ maxLen) :
    Calls Try.prog 34 #[.slice A ms.length capA, .slice C fs.length capC] w fun e w' => ∃ T' cap', e = .returned (.slice T' (mfOf ms fs).length cap') ∧ OwnE 2 encHandle 28 w' w.heap.size T' cap' (mfOf ms fs) ∧ Below w.heap.size w w' := by
  have HSZ := Lib.hid hsz
  have HSF := Lib.hid hsz2
  clear hsz hsz2
  by_cases hv : mvB ms = true
  · by_cases hf : fvB fs = true
    · have HV := Lib.hid hv
      have HF := Lib.hid hf
      go_enter Try.func34, Try.ntmps34
      go_wp2_with fail
      refine (implMovesValid_any _ _ B ms w h hB hl hcap HSZ.out).mono ?_
      rintro e w1 ⟨rfl, hb1⟩
      have hs1 := hb1.size
      go_wp2_with fail
      refine (implFollowersValid_any _ _ B fs w1 (hC.below (hb1.mono hB)) (by omega) hl2 HSF.out).mono ?_
      rintro e w2 ⟨rfl, hb2⟩
      have hs2 := hb2.size
      have hb12 := hb1.trans (hb2.mono (by omega))
      go_wp2_with fail
      clear hv hf hb1 hb2
      go_loopw [5, 7, 18] (fun v _ i wr => ∃ (k : Nat) (T : Option Addr) (cap : Nat) (cur : List ElHandle), k ≤ fs.length ∧ i = .int .i64 k ∧ v = .slice T cur.length cap ∧ cur.length ≤ 10 ∧ Hid (cur = mfTo ms fs k) ∧ OwnE 2 encHandle 28 wr w.heap.size T cap cur ∧ Below w.heap.size w wr) (fun _ _ i _ => fs.length - (intOf i).toNat)
      case atStart => exact ⟨0, none, 0, [], Nat.zero_le _, rfl, rfl, by simp, Lib.hid rfl, Own.nil _ _ _ _ _, hb12⟩
      case round =>
        clear hb12
        obtain ⟨k, T, cap, cur, hk, rfl, rfl, hc10, hcur, hown, hbl⟩ := hrel
        have hsw := hbl.size
        by_cases hlt : k < fs.length
        · skip
          obtain ⟨b, off, rfl, hb, hc⟩ := (hC.below (hbl.mono hB)).at_ (by omega)
          have c0 : wr.cell? ⟨b, off + k * 2, none⟩ = some (Value.string (gt fs k).1) := hc k 0 (by omega) (by omega)
          have c1 : wr.cell? ⟨b, off + k * 2 + 1, none⟩ = some (Value.string (gt fs k).2) := hc k 1 (by omega) (by omega)
          clear hc
          have HX := Lib.hid (HSF.out k hlt)
          have HW := Lib.hid (hv_sz (whereOf_valid HV.out (fv_hv HF.out hlt)))
          have HCS : Hid (∀ j, j < cur.length → (gt cur j).1.size ≤ maxLen ∧ (gt cur j).2.size ≤ maxLen) := Lib.hid (by rw [hcur.out]; exact mfTo_sz HV.out HF.out (by omega))
          have HN := Lib.hid (show folOf cur (whereOf ms (gt fs k)) = mfTo ms fs (k + 1) by rw [hcur.out]; rfl)
          have HL : Hid ((mfTo ms fs (k + 1)).length ≤ 10) := Lib.hid (mfTo_len10 _ _ _)
          have hblW := hbl.alloc hbl.size (.cells #[.string (gt fs k).1, .string (gt fs k).2] 28)
          have hownW := Own.below hown ((Below.refl _ wr).alloc (Nat.le_refl _) (.cells #[.string (gt fs k).1, .string (gt fs k).2] 28))
          have hsW : wr.heap.size < (wr.alloc (.cells #[.string (gt fs k).1, .string (gt fs k).2] 28)).heap.size := by simp
          have e0 : (wr.alloc (.cells #[.string (gt fs k).1, .string (gt fs k).2] 28)).cell? ⟨wr.heap.size, 0, none⟩ = some (Value.string (gt fs k).1) := by rw [World.cell?_alloc_at _ _ _ _ rfl]; rfl
          have e1 : (wr.alloc (.cells #[.string (gt fs k).1, .string (gt fs k).2] 28)).cell? ⟨wr.heap.size, 1, none⟩ = some (Value.string (gt fs k).2) := by rw [World.cell?_alloc_at _ _ _ _ rfl]; rfl
          go_wp2_with fail
          generalize (wr.alloc (.cells #[.string (gt fs k).1, .string (gt fs k).2] 28)) = W at *
          refine (implWhereIs_any A capA B ms (gt fs k) W (h.below (hblW.mono hB)) (by omega) hl hcap HSZ.out HX.out.1 HX.out.2).mono ?_
          rintro e w3 ⟨rfl, hb3⟩
          have hs3 := hb3.size
          have hown3 := Own.below hownW hb3
          have hbl3 := hblW.trans (hb3.mono (by omega))
          clear hown hownW hb3 hbl hblW c0 c1 e0 e1
          go_wp2_with fail
          refine (implFollow_any T cap _ cur (whereOf ms (gt fs k)) w3 (OwnE.rd hown3) (Nat.le_refl _) (by omega) (Own.shp hown3) HCS.out HW.out).mono ?_
          rintro e w4 ⟨T4, c4, rfl, ho4, hb4⟩
          rw [HN.out] at ho4
          rw [HN.out]
          have hbl4 := hbl3.trans (hb4.mono (by omega))
          go_wp2_with fail
          go_roundw
          case rel => exact ⟨k + 1, T4, c4, mfTo ms fs (k + 1), by omega, by go_num, rfl, HL.out, Lib.hid rfl, Own.more ho4 (by omega), hbl4⟩
          case measure => simp [intOf]; omega
        · obtain rfl : k = fs.length := by omega
          have HE := Lib.hid (hcur.out.trans (mfOf_yes HV.out HF.out).symm)
          go_wp2_with fail
          go_ret
          rw [HE.out] at hown
          rw [HE.out]
          exact ⟨T, cap, rfl, hown, hbl⟩
    · have hf' : fvB fs = false := by simpa using hf
      have HE := Lib.hid (mfOf_no2 (ms := ms) hf')
      clear hf
      go_enter Try.func34, Try.ntmps34
      go_wp2_with fail
      refine (implMovesValid_any _ _ B ms w h hB hl hcap HSZ.out).mono ?_
      rintro e w1 ⟨rfl, hb1⟩
      have hs1 := hb1.size
      go_wp2_with fail
      refine (implFollowersValid_any _ _ B fs w1 (hC.below (hb1.mono hB)) (by omega) hl2 HSF.out).mono ?_
      rintro e w2 ⟨rfl, hb2⟩
      have hs2 := hb2.size
      have hb12 := hb1.trans (hb2.mono (by omega))
      go_wp2_with fail
      go_ret
      rw [HE.out]
      exact ⟨none, 0, rfl, Own.nil _ _ _ _ _, hb12⟩
  · have hv' : mvB ms = false := by simpa using hv
    have HE := Lib.hid (mfOf_no1 (fs := fs) hv')
    clear hv
    go_enter Try.func34, Try.ntmps34
    go_wp2_with fail
    refine (implMovesValid_any _ _ B ms w h hB hl hcap HSZ.out).mono ?_
    rintro e w1 ⟨rfl, hb1⟩
    go_wp2_with fail
    go_ret
    rw [HE.out]
    exact ⟨none, 0, rfl, Own.nil _ _ _ _ _, hb1⟩
end Go.Proofs.Ytdcppbaahoimfaa
