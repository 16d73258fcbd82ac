import Derived.Test.YtdcppbaahoimfaaFansA
import Derived.Test.YtdcppbaahoimfaaWhereB
import Derived.Test.YtdcppbaahoimfaaFollowF
namespace Go.Proofs.Ytdcppbaahoimfaa
open Go.RowKit
set_option maxRecDepth 100000 in
set_option maxHeartbeats 1600000 in
theorem specMoveFans_any (A C : Option Addr) (capA capC B : Nat) (ms : List ElMove) (fs : List ElHandle) (w : World) (h : RdE 4 encMove w B A ms) (hC : RdE 2 encHandle w B C fs) (hB : B ≤ w.heap.size) (hl : ms.length ≤ 140737488351232) (hl2 : fs.length ≤ 140737488351232) (hsz : ∀ k, k < ms.length → (gt ms k).1.1.size ≤ maxLen ∧ (gt ms k).1.2.size ≤ maxLen ∧ (gt ms k).2.1.size ≤ maxLen ∧ (gt ms k).2.2.size ≤ maxLen) (hsz2 : ∀ k, k < fs.length → (gt fs k).1.size ≤ maxLen ∧ (gt fs k).2.size ≤ maxLen) :
    Calls Try.prog 36 #[.slice A ms.length capA, .slice C fs.length capC] w fun e w' => ∃ T' cap', e = .returned (.slice T' (mfOf ms fs).length cap') ∧ OwnE 2 encHandle 28 w' w.heap.size T' cap' (mfOf ms fs) ∧ Below w.heap.size w w' := by
  have HSZ := Lib.hid hsz
  have HSF := Lib.hid hsz2
  clear hsz hsz2
  by_cases hv : mvB ms = true
  · by_cases hf : fvB fs = true
    · have HV := Lib.hid hv
      have HF := Lib.hid hf
      go_enter Try.func36, Try.ntmps36
      have hb0 : Below w.heap.size w (w.alloc (.cells #[] 28)) := (Below.refl _ _).alloc (Nat.le_refl _) _
      have ho0 : OwnE 2 encHandle 28 (w.alloc (.cells #[] 28)) w.heap.size (some ⟨w.heap.size, 0, none⟩) 0 ([] : List ElHandle) := Own.lit w 28 2 0 #[] (cE 2 encHandle ([] : List ElHandle)) (Nat.zero_le _) rfl
      go_wp2_with fail
      go_loopw [5, 6, 7, 8] (fun v i _ _ wr => ∃ (k : Nat) (T : Option Addr) (cap : Nat) (cur : List ElHandle), k ≤ fs.length ∧ i = .int .i64 k ∧ v = .slice T cur.length cap ∧ cur.length ≤ 10 ∧ Hid (cur = mfTo ms fs k) ∧ OwnE 2 encHandle 28 wr w.heap.size T cap cur ∧ Below w.heap.size w wr) (fun _ i _ _ _ => fs.length - (intOf i).toNat)
      case atStart => exact ⟨0, some ⟨w.heap.size, 0, none⟩, 0, [], Nat.zero_le _, rfl, rfl, by simp, Lib.hid rfl, ho0, hb0⟩
      case round =>
        clear hb0 ho0
        obtain ⟨k, T, cap, cur, hk, rfl, rfl, hc10, hcur, hown, hbl⟩ := hrel
        have hsw := hbl.size
        by_cases hlt : k < fs.length
        · skip
          obtain ⟨b, off, rfl, hb, hc⟩ := (hC.below (hbl.mono hB)).at_ (by omega)
          have c0 : wr.cell? ⟨b, off + k * 2, none⟩ = some (Value.string (gt fs k).1) := hc k 0 (by omega) (by omega)
          have c1 : wr.cell? ⟨b, off + k * 2 + 1, none⟩ = some (Value.string (gt fs k).2) := hc k 1 (by omega) (by omega)
          clear hc
          have HX := Lib.hid (HSF.out k hlt)
          have HW := Lib.hid (hv_sz (whereOf_valid HV.out (fv_hv HF.out hlt)))
          have HCS : Hid (∀ j, j < cur.length → (gt cur j).1.size ≤ maxLen ∧ (gt cur j).2.size ≤ maxLen) := Lib.hid (by rw [hcur.out]; exact mfTo_sz HV.out HF.out (by omega))
          have HN := Lib.hid (show folOf cur (whereOf ms (gt fs k)) = mfTo ms fs (k + 1) by rw [hcur.out]; rfl)
          have HL : Hid ((mfTo ms fs (k + 1)).length ≤ 10) := Lib.hid (mfTo_len10 _ _ _)
          have hdl : decide ((k : Int) < (fs.length : Int)) = true := decide_eq_true (by omega)
          go_wp2_with fail
          refine (specMovesValid_any _ _ B ms wr (h.below (hbl.mono hB)) (by omega) hl HSZ.out).mono ?_
          rintro e w1 ⟨rfl, hb1⟩
          have hs1 := hb1.size
          have hown1 := Own.below hown hb1
          have hbl1 := hbl.trans (hb1.mono (by omega))
          have d0 := (hb1.cell (by show b < _; omega)).trans c0
          have d1 := (hb1.cell (by show b < _; omega)).trans c1
          clear hown hb1 hbl c0 c1
          go_wp2_with fail
          refine (specFollowersValid_any _ _ B fs w1 (hC.below (hbl1.mono hB)) (by omega) hl2 HSF.out).mono ?_
          rintro e w2 ⟨rfl, hb2⟩
          have hs2 := hb2.size
          have hown2 := Own.below hown1 hb2
          have hbl2 := hbl1.trans (hb2.mono (by omega))
          have c0 := (hb2.cell (by show b < _; omega)).trans d0
          have c1 := (hb2.cell (by show b < _; omega)).trans d1
          clear hown1 hb2 hbl1 d0 d1
          go_wp2_with fail
          refine (specWhereIs_any A capA B ms (gt fs k) w2 (h.below (hbl2.mono hB)) (by omega) hl HSZ.out HX.out.1 HX.out.2).mono ?_
          rintro e w3 ⟨rfl, hb3⟩
          have hs3 := hb3.size
          have hown3 := Own.below hown2 hb3
          have hbl3 := hbl2.trans (hb3.mono (by omega))
          clear hown2 hb3 hbl2 c0 c1
          go_wp2_with fail
          refine (specFollow_any T cap _ cur (whereOf ms (gt fs k)) w3 (OwnE.rd hown3) (Nat.le_refl _) (by omega) (Own.shp hown3) HCS.out HW.out).mono ?_
          rintro e w4 ⟨T4, c4, rfl, ho4, hb4⟩
          rw [HN.out] at ho4
          rw [HN.out]
          have hs4 := hb4.size
          have hbl4 := hbl3.trans (hb4.mono (by omega))
          have hown4 := Own.below hown3 hb4
          by_cases hok : folOk cur (whereOf ms (gt fs k)) = true
          · go_wp2_with fail
            go_roundw
            case rel => exact ⟨k + 1, T4, c4, mfTo ms fs (k + 1), by omega, by go_num, rfl, HL.out, Lib.hid rfl, Own.more ho4 (by omega), hbl4⟩
            case measure => simp [intOf]; omega
          · have hok' : folOk cur (whereOf ms (gt fs k)) = false := by simpa using hok
            have HS := Lib.hid (show cur = mfTo ms fs (k + 1) by rw [hcur.out] at hok' ⊢; exact (mfTo_stay hok').symm)
            clear hok
            go_wp2_with fail
            go_roundw
            case rel => exact ⟨k + 1, T, cap, cur, by omega, by go_num, rfl, hc10, HS, hown4, hbl4⟩
            case measure => simp [intOf]; omega
        · obtain rfl : k = fs.length := by omega
          have HE := Lib.hid (hcur.out.trans (mfOf_yes HV.out HF.out).symm)
          go_wp2_with fail
          go_ret
          rw [HE.out] at hown
          rw [HE.out]
          exact ⟨T, cap, rfl, hown, hbl⟩
    · have hf' : fvB fs = false := by simpa using hf
      have HE := Lib.hid (mfOf_no2 (ms := ms) hf')
      clear hf
      go_enter Try.func36, Try.ntmps36
      have hb0 : Below w.heap.size w (w.alloc (.cells #[] 28)) := (Below.refl _ _).alloc (Nat.le_refl _) _
      have ho0 : OwnE 2 encHandle 28 (w.alloc (.cells #[] 28)) w.heap.size (some ⟨w.heap.size, 0, none⟩) 0 ([] : List ElHandle) := Own.lit w 28 2 0 #[] (cE 2 encHandle ([] : List ElHandle)) (Nat.zero_le _) rfl
      go_wp2_with fail
      go_loopw [5, 6, 7, 8] (fun v i _ _ wr => ∃ (T : Option Addr) (cap : Nat), i = .int .i64 (0 : Nat) ∧ v = .slice T 0 cap ∧ OwnE 2 encHandle 28 wr w.heap.size T cap ([] : List ElHandle) ∧ Below w.heap.size w wr) (fun _ _ _ _ _ => 0)
      case atStart => exact ⟨some ⟨w.heap.size, 0, none⟩, 0, rfl, rfl, ho0, hb0⟩
      case round =>
        clear hb0 ho0
        obtain ⟨T, cap, rfl, rfl, hown, hbl⟩ := hrel
        have hsw := hbl.size
        by_cases hlt : 0 < fs.length
        · have hdl : decide ((0 : Int) < (fs.length : Int)) = true := decide_eq_true (by omega)
          have hdn : decide (0 < fs.length) = true := decide_eq_true hlt
          go_wp2_with fail
          refine (specMovesValid_any _ _ B ms wr (h.below (hbl.mono hB)) (by omega) hl HSZ.out).mono ?_
          rintro e w1 ⟨rfl, hb1⟩
          have hs1 := hb1.size
          have hown1 := Own.below hown hb1
          have hbl1 := hbl.trans (hb1.mono (by omega))
          go_wp2_with fail
          refine (specFollowersValid_any _ _ B fs w1 (hC.below (hbl1.mono hB)) (by omega) hl2 HSF.out).mono ?_
          rintro e w2 ⟨rfl, hb2⟩
          have hown2 := Own.below hown1 hb2
          have hbl2 := hbl1.trans (hb2.mono (by omega))
          go_wp2_with fail
          go_ret
          rw [HE.out]
          exact ⟨T, cap, rfl, hown2, hbl2⟩
        · have h0 : fs.length = 0 := by omega
          have hdl : decide ((0 : Int) < (fs.length : Int)) = false := decide_eq_false (by omega)
          have hdn : decide (0 < fs.length) = false := decide_eq_false hlt
          go_wp2_with fail
          go_ret
          rw [HE.out]
          exact ⟨T, cap, rfl, hown, hbl⟩
  · have hv' : mvB ms = false := by simpa using hv
    have HE := Lib.hid (mfOf_no1 (fs := fs) hv')
    clear hv
    go_enter Try.func36, Try.ntmps36
    have hb0 : Below w.heap.size w (w.alloc (.cells #[] 28)) := (Below.refl _ _).alloc (Nat.le_refl _) _
    have ho0 : OwnE 2 encHandle 28 (w.alloc (.cells #[] 28)) w.heap.size (some ⟨w.heap.size, 0, none⟩) 0 ([] : List ElHandle) := Own.lit w 28 2 0 #[] (cE 2 encHandle ([] : List ElHandle)) (Nat.zero_le _) rfl
    go_wp2_with fail
    go_loopw [5, 6, 7, 8] (fun v i _ _ wr => ∃ (T : Option Addr) (cap : Nat), i = .int .i64 (0 : Nat) ∧ v = .slice T 0 cap ∧ OwnE 2 encHandle 28 wr w.heap.size T cap ([] : List ElHandle) ∧ Below w.heap.size w wr) (fun _ _ _ _ _ => 0)
    case atStart => exact ⟨some ⟨w.heap.size, 0, none⟩, 0, rfl, rfl, ho0, hb0⟩
    case round =>
      clear hb0 ho0
      obtain ⟨T, cap, rfl, rfl, hown, hbl⟩ := hrel
      have hsw := hbl.size
      by_cases hlt : 0 < fs.length
      · have hdl : decide ((0 : Int) < (fs.length : Int)) = true := decide_eq_true (by omega)
        have hdn : decide (0 < fs.length) = true := decide_eq_true hlt
        go_wp2_with fail
        refine (specMovesValid_any _ _ B ms wr (h.below (hbl.mono hB)) (by omega) hl HSZ.out).mono ?_
        rintro e w1 ⟨rfl, hb1⟩
        have hs1 := hb1.size
        have hown1 := Own.below hown hb1
        have hbl1 := hbl.trans (hb1.mono (by omega))
        go_wp2_with fail
        go_ret
        rw [HE.out]
        exact ⟨T, cap, rfl, hown1, hbl1⟩
      · have h0 : fs.length = 0 := by omega
        have hdl : decide ((0 : Int) < (fs.length : Int)) = false := decide_eq_false (by omega)
        have hdn : decide (0 < fs.length) = false := decide_eq_false hlt
        go_wp2_with fail
        go_ret
        rw [HE.out]
        exact ⟨T, cap, rfl, hown, hbl⟩
end Go.Proofs.Ytdcppbaahoimfaa
