import Derived.Test.YtdcppbaahoimfaaMoveD
import Derived.Test.YtdcppbaahoimfaaMovePlain2
import Derived.Deep.LoopGhost
namespace Go.Proofs.Ytdcppbaahoimfaa
open Go.RowKit
set_option maxHeartbeats 1600000 in
theorem specWhereIs_any (A : Option Addr) (cap B : Nat) (ms : List ElMove) (hd : ElHandle) (w : World) (h : RdE 4 encMove w B A ms) (hB : B ≤ w.heap.size) (hl : ms.length ≤ 140737488351232) (hsz : ∀ k, k < ms.length → (gt ms k).1.1.size ≤ maxLen ∧ (gt ms k).1.2.size ≤ maxLen ∧ (gt ms k).2.1.size ≤ maxLen ∧ (gt ms k).2.2.size ≤ maxLen) (hx : hd.1.size ≤ maxLen) (hy : hd.2.size ≤ maxLen) :
    Calls Try.prog 20 #[.slice A ms.length cap, .agg #[.string hd.1, .string hd.2]] w fun e w' => e = .returned (.agg #[.string (whereOf ms hd).1, .string (whereOf ms hd).2]) ∧ Below w.heap.size w w' := by
  obtain ⟨x, y⟩ := hd
  have hx : x.size ≤ maxLen := hx
  have hy : y.size ≤ maxLen := hy
  show Calls Try.prog 20 #[.slice A ms.length cap, .agg #[.string x, .string y]] w _
  have oA : OwnE 2 encHandle 28 ((w.alloc (.cells #[.string x, .string y] 28)).alloc (.cells #[.string { data := #[] }, .string { data := #[] }] 28)) w.heap.size (some ⟨w.heap.size, 0, none⟩) 1 [(x, y)] := Own.below (Own.lit w 28 2 1 #[.string x, .string y] (cE 2 encHandle [(x, y)]) (by simp only [maxLen]; omega) rfl) ((Below.refl _ _).alloc (Nat.le_refl _) _)
  have oR : OwnE 2 encHandle 28 ((w.alloc (.cells #[.string x, .string y] 28)).alloc (.cells #[.string { data := #[] }, .string { data := #[] }] 28)) (w.heap.size + 1) (some ⟨(w.heap.size + 1), 0, none⟩) 1 [({ data := #[] }, { data := #[] })] := by
    have o := Own.lit (w.alloc (.cells #[.string x, .string y] 28)) 28 2 1 #[.string { data := #[] }, .string { data := #[] }] (cE 2 encHandle [({ data := #[] }, { data := #[] })]) (by simp only [maxLen]; omega) rfl
    rw [World.size_alloc] at o
    exact o
  have hbB : Below w.heap.size w ((w.alloc (.cells #[.string x, .string y] 28)).alloc (.cells #[.string { data := #[] }, .string { data := #[] }] 28)) := ((Below.refl _ _).alloc (Nat.le_refl _) _).alloc (by simp) _
  have hzB : w.heap.size + 1 < ((w.alloc (.cells #[.string x, .string y] 28)).alloc (.cells #[.string { data := #[] }, .string { data := #[] }] 28)).heap.size := by simp
  have hrB := h.below (hbB.mono hB)
  by_cases hv : mvB ms = true
  · by_cases hh : hvB (x, y) = true
    · have HW := Lib.hid (whereOf_yes hv hh)
      go_enter Try.func20, Try.ntmps20
      go_wp2_with fail
      generalize ((w.alloc (.cells #[.string x, .string y] 28)).alloc (.cells #[.string { data := #[] }, .string { data := #[] }] 28)) = wB at *
      have hBB : B ≤ wB.heap.size := by omega
      refine (specMovesValid_any _ cap B ms wB hrB (by omega) hl hsz).mono ?_
      rintro e w1 ⟨rfl, hb1⟩
      have hs1 := hb1.size
      have oA1 := Own.below oA hb1
      have oR1 := Own.below oR hb1
      have hbl1 := hbB.trans (hb1.mono (by omega))
      have a0 : w1.cell? ⟨w.heap.size, 0, none⟩ = some (Value.string x) := oA1.cell rfl (j := 0) (by simp)
      have af0 : w1.frozen? ⟨w.heap.size, 0, none⟩ = false := oA1.frozen rfl 0
      have a1 : w1.cell? ⟨w.heap.size, 1, none⟩ = some (Value.string y) := oA1.cell rfl (j := 1) (by simp)
      have af1 : w1.frozen? ⟨w.heap.size, 1, none⟩ = false := oA1.frozen rfl 1
      go_wp2_with fail
      refine (specHandleValid_b x y _ hx hy).mono ?_
      rintro e w2 ⟨rfl, hb2⟩
      have hs2 := hb2.size
      have oA2 := Own.below oA1 hb2
      have oR2 := Own.below oR1 hb2
      have hbl2 := hbl1.trans (hb2.mono (by omega))
      clear a0 a1 af0 af1 oA1 oR1
      clear oA oR hbB hrB hb1 hb2 hbl1
      go_wp2_with fail
      clear hv hh
      go_loopw [5, 6] (fun i _ wr => ∃ s : Nat, s ≤ ms.length ∧ i = .int .i64 s ∧ OwnE 2 encHandle 28 wr w.heap.size (some ⟨w.heap.size, 0, none⟩) 1 [orb ms (x, y) s] ∧ OwnE 2 encHandle 28 wr (w.heap.size + 1) (some ⟨(w.heap.size + 1), 0, none⟩) 1 [({ data := #[] }, { data := #[] })] ∧ Below w.heap.size w wr ∧ w.heap.size + 1 < wr.heap.size) (fun i _ _ => ms.length - (intOf i).toNat)
      case atStart => exact ⟨0, Nat.zero_le _, rfl, oA2, oR2, hbl2, by omega⟩
      case round =>
        clear oA2 oR2 hbl2
        obtain ⟨s, hs, rfl, hown, hres, hbl, hzr⟩ := hrel
        obtain ⟨u, v, huv⟩ : ∃ u v, orb ms (x, y) s = (u, v) := ⟨_, _, rfl⟩
        have HUV := Lib.hid huv
        rw [huv] at hown
        clear huv
        by_cases hsl : s < ms.length
        · obtain ⟨wo, rfl⟩ : ∃ wo : World, wo = wr := ⟨_, rfl⟩
          go_wp2_with fail
          go_loopw [6] (fun i w7 => ∃ t : Nat, t ≤ ms.length ∧ Hid (∀ i, i < t → isF (u, v) (gt ms i) = false) ∧ i = .int .i64 t ∧ OwnE 2 encHandle 28 w7 w.heap.size (some ⟨w.heap.size, 0, none⟩) 1 [(u, v)] ∧ OwnE 2 encHandle 28 w7 (w.heap.size + 1) (some ⟨(w.heap.size + 1), 0, none⟩) 1 [({ data := #[] }, { data := #[] })] ∧ Below w.heap.size w w7 ∧ w.heap.size + 1 < w7.heap.size) (fun i _ => ms.length - (intOf i).toNat)
          case atStart => exact ⟨0, Nat.zero_le _, Lib.hid (fun j hj => absurd hj (by omega)), rfl, hown, hres, hbl, hzr⟩
          case round =>
            clear hown hres hbl hzr
            obtain ⟨t, ht, hnt, rfl, ho7, hres, hbl7, hzr⟩ := hrel
            by_cases htl : t < ms.length
            · obtain ⟨b, off, rfl, hb, hc⟩ := (h.below (hbl7.mono hB)).at_ (by omega)
              have a0 : wr.cell? ⟨w.heap.size, 0, none⟩ = some (Value.string u) := ho7.cell rfl (j := 0) (by simp)
              have af0 : wr.frozen? ⟨w.heap.size, 0, none⟩ = false := ho7.frozen rfl 0
              have a1 : wr.cell? ⟨w.heap.size, 1, none⟩ = some (Value.string v) := ho7.cell rfl (j := 1) (by simp)
              have af1 : wr.frozen? ⟨w.heap.size, 1, none⟩ = false := ho7.frozen rfl 1
              have c0 : wr.cell? ⟨b, off + t * 4, none⟩ = some (Value.string ((gt ms t).1.1)) := hc t 0 (by omega) (by omega)
              have c1 : wr.cell? ⟨b, off + t * 4 + 1, none⟩ = some (Value.string ((gt ms t).1.2)) := hc t 1 (by omega) (by omega)
              have c2 : wr.cell? ⟨b, off + t * 4 + 2, none⟩ = some (Value.string ((gt ms t).2.1)) := hc t 2 (by omega) (by omega)
              have c3 : wr.cell? ⟨b, off + t * 4 + 3, none⟩ = some (Value.string ((gt ms t).2.2)) := hc t 3 (by omega) (by omega)
              clear hc
              have heq := fun w' => eql_Handle (gt ms t).1.1 (gt ms t).1.2 u v w'
              have hgd := guard_Handle
              by_cases hq : isF (u, v) (gt ms t) = true
              · have q0 : eqEl (α := ElHandle) ((gt ms t).1.1, (gt ms t).1.2) (u, v) = true := hq
                have HJ := Lib.hid (nextH_ix htl (fromIx_at htl hnt.out hq))
                have s0 := fun (n : Nat) => Own.set (show OwnE 2 encHandle 28 (wr.drewN n) w.heap.size (some ⟨w.heap.size, 0, none⟩) 1 [(u, v)] from ho7) rfl (j := 0) (Value.string ((gt ms t).2.1))
                have s1 := fun (n : Nat) => Own.set (s0 n).1 rfl (j := 1) (Value.string ((gt ms t).2.2))
                have HS := Lib.hid (fun n => (s1 n).1)
                have HG := Lib.hid (fun n => ((s0 n).2).trans (s1 n).2)
                have hsz7 := hbl7.size
                clear s0 s1 hq
                go_wp2_with fail
                go_quiet (fail)
                go_wp2_with fail
                go_roundw
                case rel => exact ⟨s + 1, by omega, by go_num, Own.congr (HS.out _) (fun i hi => by
                  rw [orb_succ, HUV.out, HJ.out]
                  have hi2 : i < 2 := (by simpa using hi)
                  rcases (by omega : i = 0 ∨ i = 1) with rfl | rfl <;> rfl), Own.kept (Own.drewN hres _) (HG.out _) (by simp [blk]), (below_drewN hbl7 _).trans (grown_below (HG.out _) (fun b hb => by simp [blk] at hb; omega) hsz7), Nat.lt_of_lt_of_le hzr (HG.out _).size⟩
                case measure => simp [intOf]; omega
              · have hq' : isF (u, v) (gt ms t) = false := by simpa using hq
                have q0 : eqEl (α := ElHandle) ((gt ms t).1.1, (gt ms t).1.2) (u, v) = false := hq'
                have HNT : Hid (∀ i, i < t + 1 → isF (u, v) (gt ms i) = false) := Lib.hid (fun i hi => by
                  rcases Nat.lt_succ_iff_lt_or_eq.1 hi with h1 | rfl
                  · exact hnt.out i h1
                  · exact hq')
                clear hq hq'
                go_wp2_with fail
                go_quiet (fail)
                go_wp2_with fail
                go_roundw
                case rel => exact ⟨t + 1, by omega, HNT, by go_num, ho7, hres, below_drewN hbl7 _, hzr⟩
                case measure => simp [intOf]; omega
            · obtain rfl : t = ms.length := by omega
              have HJ := Lib.hid (nextH_no (ms := ms) (h := (u, v)) (by rw [fromIx_none hnt.out]; omega))
              go_wp2_with fail
              go_roundw
              case rel => exact ⟨s + 1, by omega, by go_num, (by rw [orb_succ, HUV.out, HJ.out]; exact ho7), hres, hbl7, hzr⟩
              case measure => simp [intOf]; omega
        · obtain rfl : s = ms.length := by omega
          have a0 : wr.cell? ⟨w.heap.size, 0, none⟩ = some (Value.string u) := hown.cell rfl (j := 0) (by simp)
          have af0 : wr.frozen? ⟨w.heap.size, 0, none⟩ = false := hown.frozen rfl 0
          have a1 : wr.cell? ⟨w.heap.size, 1, none⟩ = some (Value.string v) := hown.cell rfl (j := 1) (by simp)
          have af1 : wr.frozen? ⟨w.heap.size, 1, none⟩ = false := hown.frozen rfl 1
          have r0 : wr.cell? ⟨(w.heap.size + 1), 0, none⟩ = some (Value.string { data := #[] }) := hres.cell rfl (j := 0) (by simp)
          have rf0 : wr.frozen? ⟨(w.heap.size + 1), 0, none⟩ = false := hres.frozen rfl 0
          have r1 : wr.cell? ⟨(w.heap.size + 1), 1, none⟩ = some (Value.string { data := #[] }) := hres.cell rfl (j := 1) (by simp)
          have rf1 : wr.frozen? ⟨(w.heap.size + 1), 1, none⟩ = false := hres.frozen rfl 1
          have HW2 := Lib.hid (HW.out.trans HUV.out)
          go_wp2_with fail
          refine bodyPost_ret (v := .agg #[.string u, .string v]) (by simp [results, Try.results20, go_sem, r0, r1, rf0, rf1]) rfl ⟨by first | (rw [HW2.out]; done) | (rw [HW2.out]; rfl), ?_⟩
          exact (hbl.setCell (by simp) _).setCell (by simp) _
    · have hh' : hvB (x, y) = false := by simpa using hh
      have HW := Lib.hid (whereOf_no2 (ms := ms) hh')
      clear hh
      go_enter Try.func20, Try.ntmps20
      go_wp2_with fail
      generalize ((w.alloc (.cells #[.string x, .string y] 28)).alloc (.cells #[.string { data := #[] }, .string { data := #[] }] 28)) = wB at *
      have hBB : B ≤ wB.heap.size := by omega
      refine (specMovesValid_any _ cap B ms wB hrB (by omega) hl hsz).mono ?_
      rintro e w1 ⟨rfl, hb1⟩
      have hs1 := hb1.size
      have oA1 := Own.below oA hb1
      have oR1 := Own.below oR hb1
      have hbl1 := hbB.trans (hb1.mono (by omega))
      have a0 : w1.cell? ⟨w.heap.size, 0, none⟩ = some (Value.string x) := oA1.cell rfl (j := 0) (by simp)
      have af0 : w1.frozen? ⟨w.heap.size, 0, none⟩ = false := oA1.frozen rfl 0
      have a1 : w1.cell? ⟨w.heap.size, 1, none⟩ = some (Value.string y) := oA1.cell rfl (j := 1) (by simp)
      have af1 : w1.frozen? ⟨w.heap.size, 1, none⟩ = false := oA1.frozen rfl 1
      go_wp2_with fail
      refine (specHandleValid_b x y _ hx hy).mono ?_
      rintro e w2 ⟨rfl, hb2⟩
      have hs2 := hb2.size
      have oA2 := Own.below oA1 hb2
      have oR2 := Own.below oR1 hb2
      have hbl2 := hbl1.trans (hb2.mono (by omega))
      clear a0 a1 af0 af1 oA1 oR1
      have r0 : w2.cell? ⟨(w.heap.size + 1), 0, none⟩ = some (Value.string { data := #[] }) := oR2.cell rfl (j := 0) (by simp)
      have rf0 : w2.frozen? ⟨(w.heap.size + 1), 0, none⟩ = false := oR2.frozen rfl 0
      have r1 : w2.cell? ⟨(w.heap.size + 1), 1, none⟩ = some (Value.string { data := #[] }) := oR2.cell rfl (j := 1) (by simp)
      have rf1 : w2.frozen? ⟨(w.heap.size + 1), 1, none⟩ = false := oR2.frozen rfl 1
      go_wp2_with fail
      refine bodyPost_ret (v := .agg #[.string { data := #[] }, .string { data := #[] }]) (by simp [results, Try.results20, go_sem, r0, r1, rf0, rf1]) rfl ⟨by first | (rw [HW.out]; done) | (rw [HW.out]; rfl), ?_⟩
      exact (hbl2.setCell (by simp) _).setCell (by simp) _
  · have hv' : mvB ms = false := by simpa using hv
    have HW := Lib.hid (whereOf_no1 (h := (x, y)) hv')
    clear hv
    go_enter Try.func20, Try.ntmps20
    go_wp2_with fail
    generalize ((w.alloc (.cells #[.string x, .string y] 28)).alloc (.cells #[.string { data := #[] }, .string { data := #[] }] 28)) = wB at *
    have hBB : B ≤ wB.heap.size := by omega
    refine (specMovesValid_any _ cap B ms wB hrB (by omega) hl hsz).mono ?_
    rintro e w1 ⟨rfl, hb1⟩
    have hs1 := hb1.size
    have oA1 := Own.below oA hb1
    have oR1 := Own.below oR hb1
    have hbl1 := hbB.trans (hb1.mono (by omega))
    have a0 : w1.cell? ⟨w.heap.size, 0, none⟩ = some (Value.string x) := oA1.cell rfl (j := 0) (by simp)
    have af0 : w1.frozen? ⟨w.heap.size, 0, none⟩ = false := oA1.frozen rfl 0
    have a1 : w1.cell? ⟨w.heap.size, 1, none⟩ = some (Value.string y) := oA1.cell rfl (j := 1) (by simp)
    have af1 : w1.frozen? ⟨w.heap.size, 1, none⟩ = false := oA1.frozen rfl 1
    have r0 : w1.cell? ⟨(w.heap.size + 1), 0, none⟩ = some (Value.string { data := #[] }) := oR1.cell rfl (j := 0) (by simp)
    have rf0 : w1.frozen? ⟨(w.heap.size + 1), 0, none⟩ = false := oR1.frozen rfl 0
    have r1 : w1.cell? ⟨(w.heap.size + 1), 1, none⟩ = some (Value.string { data := #[] }) := oR1.cell rfl (j := 1) (by simp)
    have rf1 : w1.frozen? ⟨(w.heap.size + 1), 1, none⟩ = false := oR1.frozen rfl 1
    go_wp2_with fail
    refine bodyPost_ret (v := .agg #[.string { data := #[] }, .string { data := #[] }]) (by simp [results, Try.results20, go_sem, r0, r1, rf0, rf1]) rfl ⟨by first | (rw [HW.out]; done) | (rw [HW.out]; rfl), ?_⟩
    exact (hbl1.setCell (by simp) _).setCell (by simp) _
end Go.Proofs.Ytdcppbaahoimfaa
