import Derived.Test.YtdcppbaahoimfaaMoveA
namespace Go.Proofs.Ytdcppbaahoimfaa
open Go.RowKit
set_option maxHeartbeats 800000 in
theorem inCircle_any (A : Option Addr) (cap B : Nat) (ms : List ElMove) (x y p q : ByteArray) (w : World) (h : RdE 4 encMove w B A ms) (hB : B ≤ w.heap.size) (hl : ms.length ≤ 140737488351232) :
    Calls Try.prog 46 #[.slice A ms.length cap, .agg #[.string x, .string y, .string p, .string q]] w fun e w' => e = .returned (.bool (circB ms ((x, y), (p, q)))) ∧ Below w.heap.size w w' := by
  have hz1 : w.heap.size < (w.alloc (.cells #[.string x, .string y, .string p, .string q] 30)).heap.size := by simp
  have hb2 : Below (w.heap.size + 1) (w.alloc (.cells #[.string x, .string y, .string p, .string q] 30)) ((w.alloc (.cells #[.string x, .string y, .string p, .string q] 30)).alloc (.cells #[.string p, .string q] 28)) := (Below.refl _ _).alloc (by simp) _
  have b0 : ((w.alloc (.cells #[.string x, .string y, .string p, .string q] 30)).alloc (.cells #[.string p, .string q] 28)).cell? ⟨w.heap.size, 0, none⟩ = some (Value.string x) := (hb2.cell (p := ⟨w.heap.size, 0, none⟩) (by show w.heap.size < _; omega)).trans (by rw [World.cell?_alloc_at _ _ _ _ rfl]; rfl)
  have b1 : ((w.alloc (.cells #[.string x, .string y, .string p, .string q] 30)).alloc (.cells #[.string p, .string q] 28)).cell? ⟨w.heap.size, 1, none⟩ = some (Value.string y) := (hb2.cell (p := ⟨w.heap.size, 1, none⟩) (by show w.heap.size < _; omega)).trans (by rw [World.cell?_alloc_at _ _ _ _ rfl]; rfl)
  have hbB : Below w.heap.size w ((w.alloc (.cells #[.string x, .string y, .string p, .string q] 30)).alloc (.cells #[.string p, .string q] 28)) := ((Below.refl _ _).alloc (Nat.le_refl _) _).alloc (by simp) _
  have hzB : w.heap.size + 1 < ((w.alloc (.cells #[.string x, .string y, .string p, .string q] 30)).alloc (.cells #[.string p, .string q] 28)).heap.size := by simp
  have oB : OwnE 2 encHandle 28 ((w.alloc (.cells #[.string x, .string y, .string p, .string q] 30)).alloc (.cells #[.string p, .string q] 28)) (w.heap.size + 1) (some ⟨w.heap.size + 1, 0, none⟩) 1 [(p, q)] := by
    have o := Own.lit (w.alloc (.cells #[.string x, .string y, .string p, .string q] 30)) 28 2 1 #[.string p, .string q] (cE 2 encHandle [(p, q)]) (by simp only [maxLen]; omega) rfl
    rw [World.size_alloc] at o
    exact o
  have hrB := h.below (hbB.mono hB)
  clear hz1 hb2
  go_enter Try.func46, Try.ntmps46
  go_wp2_with fail
  generalize ((w.alloc (.cells #[.string x, .string y, .string p, .string q] 30)).alloc (.cells #[.string p, .string q] 28)) = wB at *
  have hBB : B ≤ wB.heap.size := by omega
  go_loopw [6, 11] (fun _ i wr => ∃ k : Nat, k ≤ ms.length ∧ Hid (∀ i, i < k → orb ms (p, q) i ≠ (x, y)) ∧ i = .int .i64 k ∧ OwnE 2 encHandle 28 wr (w.heap.size + 1) (some ⟨w.heap.size + 1, 0, none⟩) 1 [orb ms (p, q) k] ∧ Below (w.heap.size + 1) wB wr) (fun _ i _ => ms.length - (intOf i).toNat)
  case atStart => exact ⟨0, Nat.zero_le _, Lib.hid (fun j hj => absurd hj (by omega)), rfl, oB, Below.refl _ _⟩
  case round =>
    clear oB
    obtain ⟨k, hk, hno, rfl, hown, hbl⟩ := hrel
    by_cases hlt : k < ms.length
    · obtain ⟨u, v, huv⟩ : ∃ u v, orb ms (p, q) k = (u, v) := ⟨_, _, rfl⟩
      rw [huv] at hown
      have a0 : wr.cell? ⟨w.heap.size + 1, 0, none⟩ = some (Value.string u) := hown.cell rfl (j := 0) (by simp)
      have a1 : wr.cell? ⟨w.heap.size + 1, 1, none⟩ = some (Value.string v) := hown.cell rfl (j := 1) (by simp)
      have g0 := (hbl.cell (p := ⟨w.heap.size, 0, none⟩) (by show w.heap.size < _; omega)).trans b0
      have g1 := (hbl.cell (p := ⟨w.heap.size, 1, none⟩) (by show w.heap.size < _; omega)).trans b1
      have hgz := hbl.size
      have heq := fun w' => eql_Handle u v x y w'
      have hgd := guard_Handle
      have hrr := hrB.below (hbl.mono (by omega : B ≤ w.heap.size + 1))
      by_cases hc : orb ms (p, q) k = (x, y)
      · have q0 : eqEl (α := ElHandle) (u, v) (x, y) = true := eqEl_true (huv.symm.trans hc)
        have HQ := Lib.hid (circB_at (m := ((x, y), (p, q))) hlt hc)
        clear hc
        go_wp2_with fail
        go_ret
        exact ⟨ret_bool HQ.out.symm, hbB.trans (hbl.mono (by omega))⟩
      · have q0 : eqEl (α := ElHandle) (u, v) (x, y) = false := eqEl_false (fun e => hc (huv.trans e))
        have HNO : Hid (∀ i, i < k + 1 → orb ms (p, q) i ≠ (x, y)) := Lib.hid (fun j hj => by
          rcases Nat.lt_succ_iff_lt_or_eq.1 hj with h1 | rfl
          · exact hno.out j h1
          · exact hc)
        have hcall := moveFrom_any A cap B ms u v wr hrr (by omega) hl
        clear hc
        by_cases hneg : fromIx ms (u, v) < 0
        · have hd : decide (fromIx ms (u, v) < 0) = true := decide_eq_true hneg
          have HQ := Lib.hid (circB_stuck (m := ((x, y), (p, q))) HNO.out (by show nextH ms (orb ms (p, q) k) = orb ms (p, q) k; rw [huv]; exact nextH_no hneg))
          clear hneg
          go_wp2_with fail
          refine hcall.mono ?_
          rintro e w2 ⟨rfl, hb2⟩
          go_wp2_with fail
          go_ret
          exact ⟨ret_bool HQ.out.symm, (hbB.trans (hbl.mono (by omega))).trans (hb2.mono (by omega))⟩
        · have hhi : fromIx ms (u, v) < ms.length := ix_hi
          obtain ⟨j, hj⟩ := Int.eq_ofNat_of_zero_le (Int.not_lt.1 hneg)
          rw [hj] at hcall hhi
          have hjl : j < ms.length := by omega
          have HJ := Lib.hid (nextH_ix hjl hj)
          clear hneg hj hhi
          have HC := Lib.hid hcall
          clear hcall
          go_wp2_with fail
          refine HC.out.mono ?_
          rintro e w2 ⟨rfl, hb2⟩
          have o2 := Own.below hown (hb2.mono (by omega))
          have hbl2 := hbl.trans (hb2.mono (by omega : w.heap.size + 1 ≤ wr.heap.size))
          have hsz2 := hbl2.size
          obtain ⟨b, off, rfl, hb, hcell⟩ := (hrr.below (hb2.mono (by omega))).at_ (by omega)
          have c2 : w2.cell? ⟨b, off + j * 4 + 2, none⟩ = some (Value.string ((gt ms j).2.1)) := hcell j 2 (by omega) (by omega)
          have c3 : w2.cell? ⟨b, off + j * 4 + 3, none⟩ = some (Value.string ((gt ms j).2.2)) := hcell j 3 (by omega) (by omega)
          clear hcell
          have d0 : w2.cell? ⟨w.heap.size + 1, 0, none⟩ = some (Value.string u) := o2.cell rfl (j := 0) (by simp)
          have d1 : w2.cell? ⟨w.heap.size + 1, 1, none⟩ = some (Value.string v) := o2.cell rfl (j := 1) (by simp)
          have e0 : w2.frozen? ⟨w.heap.size + 1, 0, none⟩ = false := o2.frozen rfl 0
          have e1 : w2.frozen? ⟨w.heap.size + 1, 1, none⟩ = false := o2.frozen rfl 1
          have s0 := (o2).set rfl (j := 0) (Value.string ((gt ms j).2.1))
          have s1 := (s0.1).set rfl (j := 1) (Value.string ((gt ms j).2.2))
          have HS := Lib.hid s1.1
          have HG := Lib.hid ((s0.2).trans s1.2)
          clear s0 s1 o2 hown
          go_wp2_with fail
          go_roundw
          case rel => exact ⟨k + 1, by omega, HNO, by go_num, Own.congr HS.out (fun i hi => by
            rw [orb_succ, huv, HJ.out]
            have hi2 : i < 2 := (by simpa using hi)
            rcases (by omega : i = 0 ∨ i = 1) with rfl | rfl <;> rfl), hbl2.trans (grown_below HG.out (fun b hb => by simp [blk] at hb; omega) (Nat.le_trans (Nat.le_of_lt hzB) hsz2))⟩
          case measure => simp [intOf]; omega
    · obtain rfl : k = ms.length := by omega
      go_wp2_with fail
      go_ret
      exact ⟨ret_bool (circB_no (m := ((x, y), (p, q))) hno.out).symm, hbB.trans (hbl.mono (by omega))⟩
end Go.Proofs.Ytdcppbaahoimfaa
