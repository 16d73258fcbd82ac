import Derived.Test.YtdcppbaahoimfaaMoveC
import Derived.Test.YtdcppbaahoimfaaMovePlain2
import Derived.Deep.LoopGhost
namespace Go.Proofs.Ytdcppbaahoimfaa
open Go.RowKit
set_option maxHeartbeats 1600000 in
theorem implWhereIs_any (A : Option Addr) (cap B : Nat) (ms : List ElMove) (hd : ElHandle) (w : World) (h : RdE 4 encMove w B A ms) (hB : B ≤ w.heap.size) (hl : ms.length ≤ 140737488351232) (hcap : ms.length ≤ cap) (hsz : ∀ k, k < ms.length → (gt ms k).1.1.size ≤ maxLen ∧ (gt ms k).1.2.size ≤ maxLen ∧ (gt ms k).2.1.size ≤ maxLen ∧ (gt ms k).2.2.size ≤ maxLen) (hx : hd.1.size ≤ maxLen) (hy : hd.2.size ≤ maxLen) :
    Calls Try.prog 19 #[.slice A ms.length cap, .agg #[.string hd.1, .string hd.2]] w fun e w' => e = .returned (.agg #[.string (whereOf ms hd).1, .string (whereOf ms hd).2]) ∧ Below w.heap.size w w' := by
  obtain ⟨x, y⟩ := hd
  have hx : x.size ≤ maxLen := hx
  have hy : y.size ≤ maxLen := hy
  show Calls Try.prog 19 #[.slice A ms.length cap, .agg #[.string x, .string y]] w _
  have oA : OwnE 2 encHandle 28 ((w.alloc (.cells #[.string x, .string y] 28)).alloc (.cells #[.string { data := #[] }, .string { data := #[] }] 28)) w.heap.size (some ⟨w.heap.size, 0, none⟩) 1 [(x, y)] := Own.below (Own.lit w 28 2 1 #[.string x, .string y] (cE 2 encHandle [(x, y)]) (by simp only [maxLen]; omega) rfl) ((Below.refl _ _).alloc (Nat.le_refl _) _)
  have oR : OwnE 2 encHandle 28 ((w.alloc (.cells #[.string x, .string y] 28)).alloc (.cells #[.string { data := #[] }, .string { data := #[] }] 28)) (w.heap.size + 1) (some ⟨(w.heap.size + 1), 0, none⟩) 1 [({ data := #[] }, { data := #[] })] := by
    have o := Own.lit (w.alloc (.cells #[.string x, .string y] 28)) 28 2 1 #[.string { data := #[] }, .string { data := #[] }] (cE 2 encHandle [({ data := #[] }, { data := #[] })]) (by simp only [maxLen]; omega) rfl
    rw [World.size_alloc] at o
    exact o
  have hbB : Below w.heap.size w ((w.alloc (.cells #[.string x, .string y] 28)).alloc (.cells #[.string { data := #[] }, .string { data := #[] }] 28)) := ((Below.refl _ _).alloc (Nat.le_refl _) _).alloc (by simp) _
  have hzB : w.heap.size + 1 < ((w.alloc (.cells #[.string x, .string y] 28)).alloc (.cells #[.string { data := #[] }, .string { data := #[] }] 28)).heap.size := by simp
  have hrB := h.below (hbB.mono hB)
  by_cases hv : mvB ms = true
  · by_cases hh : hvB (x, y) = true
    · obtain ⟨i0, hi0, st0⟩ := mv_end hv (x, y)
      have HI := Lib.hid hi0
      have HS := Lib.hid st0
      clear hi0 st0
      have HV := Lib.hid hv
      have HH := Lib.hid hh
      go_enter Try.func19, Try.ntmps19
      go_wp2_with fail
      generalize ((w.alloc (.cells #[.string x, .string y] 28)).alloc (.cells #[.string { data := #[] }, .string { data := #[] }] 28)) = wB at *
      have hBB : B ≤ wB.heap.size := by omega
      refine (implMovesValid_any _ cap B ms wB hrB (by omega) hl hcap hsz).mono ?_
      rintro e w1 ⟨rfl, hb1⟩
      have hs1 := hb1.size
      have oA1 := Own.below oA hb1
      have oR1 := Own.below oR hb1
      have hbl1 := hbB.trans (hb1.mono (by omega))
      have a0 : w1.cell? ⟨w.heap.size, 0, none⟩ = some (Value.string x) := oA1.cell rfl (j := 0) (by simp)
      have af0 : w1.frozen? ⟨w.heap.size, 0, none⟩ = false := oA1.frozen rfl 0
      have a1 : w1.cell? ⟨w.heap.size, 1, none⟩ = some (Value.string y) := oA1.cell rfl (j := 1) (by simp)
      have af1 : w1.frozen? ⟨w.heap.size, 1, none⟩ = false := oA1.frozen rfl 1
      go_wp2_with fail
      refine (implHandleValid_b x y _ hx hy).mono ?_
      rintro e w2 ⟨rfl, hb2⟩
      have hs2 := hb2.size
      have oA2 := Own.below oA1 hb2
      have oR2 := Own.below oR1 hb2
      have hbl2 := hbl1.trans (hb2.mono (by omega))
      clear a0 a1 af0 af1 oA1 oR1
      have hr2 := h.below (hbl2.mono hB)
      clear oA oR hbB hrB hb1 hb2 hbl1
      have a0 : w2.cell? ⟨w.heap.size, 0, none⟩ = some (Value.string x) := oA2.cell rfl (j := 0) (by simp)
      have af0 : w2.frozen? ⟨w.heap.size, 0, none⟩ = false := oA2.frozen rfl 0
      have a1 : w2.cell? ⟨w.heap.size, 1, none⟩ = some (Value.string y) := oA2.cell rfl (j := 1) (by simp)
      have af1 : w2.frozen? ⟨w.heap.size, 1, none⟩ = false := oA2.frozen rfl 1
      go_wp2_with fail
      refine (moveFrom_any _ cap B ms x y w2 hr2 (by omega) hl).mono ?_
      rintro e w3 ⟨rfl, hb3⟩
      have hs3 := hb3.size
      have oA3 := Own.below oA2 hb3
      have oR3 := Own.below oR2 hb3
      have hbl3 := hbl2.trans (hb3.mono (by omega))
      clear a0 a1 af0 af1 oA2 oR2 hbl2 hb3 hr2
      go_wp2_with fail
      go_loopg [5] i0 (fun kk n wr => ∃ k : Nat, Hid (k + kk = i0) ∧ n = .int .i64 (fromIx ms (orb ms (x, y) k)) ∧ OwnE 2 encHandle 28 wr w.heap.size (some ⟨w.heap.size, 0, none⟩) 1 [orb ms (x, y) k] ∧ OwnE 2 encHandle 28 wr (w.heap.size + 1) (some ⟨(w.heap.size + 1), 0, none⟩) 1 [({ data := #[] }, { data := #[] })] ∧ Below w.heap.size w wr ∧ w.heap.size + 1 < wr.heap.size)
      case atStart => exact ⟨0, Lib.hid (by omega), rfl, oA3, oR3, hbl3, by omega⟩
      case round =>
        clear oA3 oR3 hbl3
        obtain ⟨k, HK, rfl, hown, hres, hbl, hzr⟩ := hrel
        obtain ⟨u, v, huv⟩ : ∃ u v, orb ms (x, y) k = (u, v) := ⟨_, _, rfl⟩
        have HUV := Lib.hid huv
        rw [huv] at hown
        rw [huv]
        clear huv
        have hrr := h.below (hbl.mono hB)
        by_cases hneg : fromIx ms (u, v) < 0
        · have hdn : decide (0 ≤ fromIx ms (u, v)) = false := decide_eq_false (by omega)
          have HW := Lib.hid (show whereOf ms (x, y) = (u, v) by
            rw [whereOf_yes HV.out HH.out, ← HUV.out]
            have hkk := HK.out
            have := HI.out
            exact orb_enough (by omega) (by rw [HUV.out]; exact fromIx_neg.1 hneg))
          clear hneg
          have a0 : wr.cell? ⟨w.heap.size, 0, none⟩ = some (Value.string u) := hown.cell rfl (j := 0) (by simp)
          have af0 : wr.frozen? ⟨w.heap.size, 0, none⟩ = false := hown.frozen rfl 0
          have a1 : wr.cell? ⟨w.heap.size, 1, none⟩ = some (Value.string v) := hown.cell rfl (j := 1) (by simp)
          have af1 : wr.frozen? ⟨w.heap.size, 1, none⟩ = false := hown.frozen rfl 1
          have r0 : wr.cell? ⟨(w.heap.size + 1), 0, none⟩ = some (Value.string { data := #[] }) := hres.cell rfl (j := 0) (by simp)
          have rf0 : wr.frozen? ⟨(w.heap.size + 1), 0, none⟩ = false := hres.frozen rfl 0
          have r1 : wr.cell? ⟨(w.heap.size + 1), 1, none⟩ = some (Value.string { data := #[] }) := hres.cell rfl (j := 1) (by simp)
          have rf1 : wr.frozen? ⟨(w.heap.size + 1), 1, none⟩ = false := hres.frozen rfl 1
          go_wp2_with fail
          refine bodyPost_ret (v := .agg #[.string u, .string v]) (by simp [results, Try.results19, go_sem, r0, r1, rf0, rf1]) rfl ⟨by first | (rw [HW.out]; done) | (rw [HW.out]; rfl), ?_⟩
          exact (hbl.setCell (by simp) _).setCell (by simp) _
        · have hdn : decide (0 ≤ fromIx ms (u, v)) = true := decide_eq_true (by omega)
          have hhi : fromIx ms (u, v) < ms.length := ix_hi
          obtain ⟨j, hj⟩ := Int.eq_ofNat_of_zero_le (Int.not_lt.1 hneg)
          have hlt : Hid (k < i0) := Lib.hid (by
            have hkk := HK.out
            rcases Nat.lt_or_ge k i0 with q | q
            · exact q
            · exfalso
              have hs := HS.out
              rw [show i0 = k by omega, HUV.out] at hs
              exact hneg (fromIx_neg.2 hs))
          rw [hj] at hhi hdn
          rw [hj]
          have hjl : j < ms.length := by omega
          have HJ := Lib.hid (nextH_ix hjl hj)
          clear hneg hj hhi
          obtain ⟨b, off, rfl, hb, hcell⟩ := hrr.at_ (by omega)
          have c2 : wr.cell? ⟨b, off + j * 4 + 2, none⟩ = some (Value.string ((gt ms j).2.1)) := hcell j 2 (by omega) (by omega)
          have c3 : wr.cell? ⟨b, off + j * 4 + 3, none⟩ = some (Value.string ((gt ms j).2.2)) := hcell j 3 (by omega) (by omega)
          clear hcell
          have a0 : wr.cell? ⟨w.heap.size, 0, none⟩ = some (Value.string u) := hown.cell rfl (j := 0) (by simp)
          have af0 : wr.frozen? ⟨w.heap.size, 0, none⟩ = false := hown.frozen rfl 0
          have a1 : wr.cell? ⟨w.heap.size, 1, none⟩ = some (Value.string v) := hown.cell rfl (j := 1) (by simp)
          have af1 : wr.frozen? ⟨w.heap.size, 1, none⟩ = false := hown.frozen rfl 1
          have s0 := hown.set rfl (j := 0) (Value.string ((gt ms j).2.1))
          have s1 := (s0.1).set rfl (j := 1) (Value.string ((gt ms j).2.2))
          have o2 : OwnE 2 encHandle 28 ((wr.setCell ⟨w.heap.size, 0, none⟩ (Value.string ((gt ms j).2.1))).setCell ⟨w.heap.size, 1, none⟩ (Value.string ((gt ms j).2.2))) w.heap.size (some ⟨w.heap.size, 0, none⟩) 1 [((gt ms j).2.1, (gt ms j).2.2)] := Own.congr s1.1 (fun i hi => by
            have hi2 : i < 2 := (by simpa using hi)
            rcases (by omega : i = 0 ∨ i = 1) with rfl | rfl <;> rfl)
          have hg2 := (s0.2).trans s1.2
          have hb2 := grown_below (B := w.heap.size) hg2 (fun b hb => by simp [blk] at hb; omega) (by omega)
          have or2 := Own.kept hres hg2 (by simp [blk])
          have hsz2 := hb2.size
          have hrr2 := hrr.below (hb2.mono hB)
          have hbl2 := hbl.trans hb2
          clear s0 s1 hg2 hown hres hb2 hbl
          go_wp2_with fail
          generalize ((wr.setCell ⟨w.heap.size, 0, none⟩ (Value.string ((gt ms j).2.1))).setCell ⟨w.heap.size, 1, none⟩ (Value.string ((gt ms j).2.2))) = wS at *
          refine (moveFrom_any _ cap B ms _ _ wS hrr2 (by omega) hl).mono ?_
          rintro e w4 ⟨rfl, hb4⟩
          have hs4 := hb4.size
          have HO := Lib.hid (show orb ms (x, y) (k + 1) = ((gt ms j).2.1, (gt ms j).2.2) by rw [orb_succ, HUV.out, HJ.out])
          go_wp2_with fail
          go_roundg (gk - 1)
          case measure => have := HK.out; have := hlt.out; omega
          case rel => exact ⟨k + 1, Lib.hid (by have := HK.out; have := hlt.out; omega), by rw [HO.out], by rw [HO.out]; exact Own.below o2 hb4, Own.below or2 hb4, hbl2.trans (hb4.mono (by omega)), by omega⟩
    · have hh' : hvB (x, y) = false := by simpa using hh
      have HW := Lib.hid (whereOf_no2 (ms := ms) hh')
      clear hh
      go_enter Try.func19, Try.ntmps19
      go_wp2_with fail
      generalize ((w.alloc (.cells #[.string x, .string y] 28)).alloc (.cells #[.string { data := #[] }, .string { data := #[] }] 28)) = wB at *
      have hBB : B ≤ wB.heap.size := by omega
      refine (implMovesValid_any _ cap B ms wB hrB (by omega) hl hcap hsz).mono ?_
      rintro e w1 ⟨rfl, hb1⟩
      have hs1 := hb1.size
      have oA1 := Own.below oA hb1
      have oR1 := Own.below oR hb1
      have hbl1 := hbB.trans (hb1.mono (by omega))
      have a0 : w1.cell? ⟨w.heap.size, 0, none⟩ = some (Value.string x) := oA1.cell rfl (j := 0) (by simp)
      have af0 : w1.frozen? ⟨w.heap.size, 0, none⟩ = false := oA1.frozen rfl 0
      have a1 : w1.cell? ⟨w.heap.size, 1, none⟩ = some (Value.string y) := oA1.cell rfl (j := 1) (by simp)
      have af1 : w1.frozen? ⟨w.heap.size, 1, none⟩ = false := oA1.frozen rfl 1
      go_wp2_with fail
      refine (implHandleValid_b x y _ hx hy).mono ?_
      rintro e w2 ⟨rfl, hb2⟩
      have hs2 := hb2.size
      have oA2 := Own.below oA1 hb2
      have oR2 := Own.below oR1 hb2
      have hbl2 := hbl1.trans (hb2.mono (by omega))
      clear a0 a1 af0 af1 oA1 oR1
      have r0 : w2.cell? ⟨(w.heap.size + 1), 0, none⟩ = some (Value.string { data := #[] }) := oR2.cell rfl (j := 0) (by simp)
      have rf0 : w2.frozen? ⟨(w.heap.size + 1), 0, none⟩ = false := oR2.frozen rfl 0
      have r1 : w2.cell? ⟨(w.heap.size + 1), 1, none⟩ = some (Value.string { data := #[] }) := oR2.cell rfl (j := 1) (by simp)
      have rf1 : w2.frozen? ⟨(w.heap.size + 1), 1, none⟩ = false := oR2.frozen rfl 1
      go_wp2_with fail
      refine bodyPost_ret (v := .agg #[.string { data := #[] }, .string { data := #[] }]) (by simp [results, Try.results19, go_sem, r0, r1, rf0, rf1]) rfl ⟨by first | (rw [HW.out]; done) | (rw [HW.out]; rfl), ?_⟩
      exact (hbl2.setCell (by simp) _).setCell (by simp) _
  · have hv' : mvB ms = false := by simpa using hv
    have HW := Lib.hid (whereOf_no1 (h := (x, y)) hv')
    clear hv
    go_enter Try.func19, Try.ntmps19
    go_wp2_with fail
    generalize ((w.alloc (.cells #[.string x, .string y] 28)).alloc (.cells #[.string { data := #[] }, .string { data := #[] }] 28)) = wB at *
    have hBB : B ≤ wB.heap.size := by omega
    refine (implMovesValid_any _ cap B ms wB hrB (by omega) hl hcap hsz).mono ?_
    rintro e w1 ⟨rfl, hb1⟩
    have hs1 := hb1.size
    have oA1 := Own.below oA hb1
    have oR1 := Own.below oR hb1
    have hbl1 := hbB.trans (hb1.mono (by omega))
    have a0 : w1.cell? ⟨w.heap.size, 0, none⟩ = some (Value.string x) := oA1.cell rfl (j := 0) (by simp)
    have af0 : w1.frozen? ⟨w.heap.size, 0, none⟩ = false := oA1.frozen rfl 0
    have a1 : w1.cell? ⟨w.heap.size, 1, none⟩ = some (Value.string y) := oA1.cell rfl (j := 1) (by simp)
    have af1 : w1.frozen? ⟨w.heap.size, 1, none⟩ = false := oA1.frozen rfl 1
    have r0 : w1.cell? ⟨(w.heap.size + 1), 0, none⟩ = some (Value.string { data := #[] }) := oR1.cell rfl (j := 0) (by simp)
    have rf0 : w1.frozen? ⟨(w.heap.size + 1), 0, none⟩ = false := oR1.frozen rfl 0
    have r1 : w1.cell? ⟨(w.heap.size + 1), 1, none⟩ = some (Value.string { data := #[] }) := oR1.cell rfl (j := 1) (by simp)
    have rf1 : w1.frozen? ⟨(w.heap.size + 1), 1, none⟩ = false := oR1.frozen rfl 1
    go_wp2_with fail
    refine bodyPost_ret (v := .agg #[.string { data := #[] }, .string { data := #[] }]) (by simp [results, Try.results19, go_sem, r0, r1, rf0, rf1]) rfl ⟨by first | (rw [HW.out]; done) | (rw [HW.out]; rfl), ?_⟩
    exact (hbl1.setCell (by simp) _).setCell (by simp) _
end Go.Proofs.Ytdcppbaahoimfaa
