import Derived.Test.YthkdofflfaikgaaDrawTime2
import Derived.Test.YthkdofflfaikgaaTimeH
import Derived.Test.YthkdofflfaikgaaWords
import Derived.Test.YthkdofflfaikgaaChain
namespace Go.Proofs.Ythkdofflfaikgaa
open Go.RowKit PP
set_option maxRecDepth 100000 in
set_option maxHeartbeats 3200000 in
theorem FnMergeTimelines_walk (A : Option Addr) (cap : Nat) (cs : List Int) (w : World) (h : Rd w w.heap.size 1 A cs.length (fun j => .int .u8 (at_ cs j))) (hc : cs.length ≤ cap) (_ : cap ≤ maxLen) (hwf : ∀ n ∈ cs, (Lit.int .u8 n).wf = true) :
    Calls Try.prog 10 #[.slice A cs.length cap] w fun e w' => e = .returned (.bool true) ∧ Below w.heap.size w w' := by
  by_cases hs : cs.length ≤ 1048576
  · have hd : decide (1048576 < (cs.length : Int)) = false := decide_eq_false (by omega)
    have hbyte := Lib.hid (byte_bounds hwf)
    clear hwf
    go_enter Try.func10, Try.ntmps10
    go_wp2_with fail
    refine (DrawMergeTimelines_any A cap _ cs w h (Nat.le_refl _) hbyte.out hc hs).mono ?_
    rintro e w1 ⟨T, c1, xs, T', c1', ys, rfl, hx, hy, o1, o1', hb1⟩
    have hs1 := hb1.size
    have rx := OwnE.rd o1
    have ry := OwnE.rd o1'
    have Sx := Own.shp o1
    have Sy := Own.shp o1'
    have hM := mergeOf_len xs ys
    have hself := sameB_self (mergeOf xs ys)
    have hselfx := sameB_self xs
    go_wp2_with fail
    refine (implMergeTimelines_any T T' c1 c1' _ xs ys w1 rx ry (Nat.le_refl _) (by omega) (by omega) Sx Sy).mono ?_
    rintro e w2 ⟨R, c2, rfl, o2, b2⟩
    have s2 := b2.size
    have SM := Own.shp o2
    go_wp2_with fail
    refine (specMergeTimelines_any T T' c1 c1' _ xs ys w2 (rx.below b2) (ry.below b2) s2 (by omega) (by omega)).mono ?_
    rintro e w3 ⟨R3, c3, rfl, o3, b3⟩
    have k3 := (tr b2 b3)
    have s3 := b3.size
    have o2_3 := Own.below o2 b3
    go_wp2_with fail
    refine (samePosts_any R R3 c2 c3 w3.heap.size (mergeOf xs ys) (mergeOf xs ys) w3 (OwnE.rd o2_3) (OwnE.rd o3) (Nat.le_refl _) (by omega) (by omega)).mono ?_
    rintro e w4 ⟨rfl, b4⟩
    have k4 := (tr k3 b4)
    have s4 := k4.size
    have m4 := (tr b3 b4)
    have hcall := implMergeTimelines_any T' T c1' c1 _ ys xs w4 (ry.below k4) (rx.below k4) s4 (by omega) (by omega) Sy Sx
    rw [mergeOf_comm ys xs] at hcall
    have HC := Lib.hid hcall
    clear hcall
    go_wp2_with fail
    refine (HC.out).mono ?_
    rintro e w5 ⟨R5, c5, rfl, o5, b5⟩
    have k5 := (tr k4 b5)
    have m5 := (tr m4 b5)
    have o2_5 := Own.below o2 m5
    go_wp2_with fail
    refine (samePosts_any R R5 c2 c5 w5.heap.size (mergeOf xs ys) (mergeOf xs ys) w5 (OwnE.rd o2_5) (OwnE.rd o5) (Nat.le_refl _) (by omega) (by omega)).mono ?_
    rintro e w6 ⟨rfl, b6⟩
    have k6 := (tr k5 b6)
    have m6 := (tr m5 b6)
    have s6 := k6.size
    go_wp2_with fail
    refine (implTimelineValid_any T c1 _ xs w6 (rx.below k6) s6 (by omega)).mono ?_
    rintro e w7 ⟨rfl, b7⟩
    have k7 := (tr k6 b7)
    have m7 := (tr m6 b7)
    have s7 := k7.size
    clear o2_3 o2_5 o3 o5 HC b3 b4 b5 b6 b7 k3 k4 k5 k6 m4 m5 m6
    by_cases hv : tvB xs = true
    ·
      go_wp2_with fail
      refine (implTimelineValid_any T' c1' _ ys w7 (ry.below k7) s7 (by omega)).mono ?_
      rintro e w8 ⟨rfl, b8⟩
      have k8 := (tr k7 b8)
      have m8 := (tr m7 b8)
      have s8 := k8.size
      by_cases hv' : tvB ys = true
      · have hlenM := mergeOf_len2 xs ys
        have hvM := mergeOf_valid hv hv'
        have hlM : decide (((mergeOf xs ys).length : Int) ≤ (xs.length : Int) + (ys.length : Int)) = true := decide_eq_true (by omega)
        have o2_8 := Own.below o2 m8
        have hMx : mergeOf xs xs = xs := mergeOf_self hv
        have HMX := Lib.hid hMx
        clear hMx
        by_cases hroom : xs.length + ys.length ≤ 40
        · have hr1 : decide ((xs.length : Int) + (ys.length : Int) ≤ 40) = true := decide_eq_true (by omega)
          go_wp2_with fail
          go_loopw [6] (fun i wr => ∃ k : Nat, k ≤ xs.length ∧ i = .int .i64 k ∧ Below w8.heap.size w8 wr) (fun i _ => xs.length - (intOf i).toNat)
          case atStart => exact ⟨0, Nat.zero_le _, rfl, Below.refl _ _⟩
          case round =>
            obtain ⟨k, hk, rfl, hbl⟩ := hrel
            have kr := (tr k8 hbl)
            have mr := (tr m8 hbl)
            by_cases hlt : k < xs.length
            · obtain ⟨b, off, rfl, hb, hcell⟩ := (rx.below kr).at_ (by omega)
              have c0 : wr.cell? ⟨b, off + k * 2, none⟩ = some (Value.int .i64 ((gt xs k).1)) := hcell k 0 (by omega) (by omega)
              have c1 : wr.cell? ⟨b, off + k * 2 + 1, none⟩ = some (Value.int .i64 ((gt xs k).2)) := hcell k 1 (by omega) (by omega)
              clear hcell
              have hno := merge_has hv hv' hroom (gt_mem hlt)
              have hcall := implPutPost_any R c2 _ (mergeOf xs ys) (gt xs k) wr (OwnE.rd (Own.below o2 mr)) (Nat.le_refl _) (by omega) SM
              rw [hno] at hcall
              have HC3 := Lib.hid hcall
              clear hcall hno
              go_wp2_with fail
              refine (HC3.out).mono ?_
              rintro e w9 ⟨R9, c9, rfl, o9, b9⟩
              go_wp2_with fail
              go_roundw
              case rel => exact ⟨k + 1, by omega, by go_num, (tr hbl b9)⟩
              case measure => simp [intOf]; omega
            · obtain rfl : k = xs.length := by omega
              go_wp2_with fail
              refine (implTimelineValid_any R c2 _ (mergeOf xs ys) wr (OwnE.rd (Own.below o2 mr)) (Nat.le_refl _) (by omega)).mono ?_
              rintro e w10 ⟨rfl, b10⟩
              have k10 := (tr kr b10)
              have s10 := k10.size
              have hcall := implMergeTimelines_any T T c1 c1 _ xs xs w10 (rx.below k10) (rx.below k10) s10 (by omega) (by omega) Sx Sx
              rw [HMX.out] at hcall
              have HC2 := Lib.hid hcall
              clear hcall
              go_wp2_with fail
              refine (HC2.out).mono ?_
              rintro e w11 ⟨R11, c11, rfl, o11, b11⟩
              have k11 := (tr k10 b11)
              go_wp2_with fail
              refine (samePosts_any R11 T c11 c1 w11.heap.size xs xs w11 (OwnE.rd o11) (RdE.more (rx.below k11) k11.size) (Nat.le_refl _) (by omega) (by omega)).mono ?_
              rintro e w12 ⟨rfl, b12⟩
              go_wp2_with fail
              go_ret
              exact ⟨rfl, (tr hb1 (tr k11 b12))⟩
        · have hr1 : decide ((xs.length : Int) + (ys.length : Int) ≤ 40) = false := decide_eq_false (by omega)
          go_wp2_with fail
          refine (implTimelineValid_any R c2 _ (mergeOf xs ys) w8 (OwnE.rd (Own.below o2 m8)) (Nat.le_refl _) (by omega)).mono ?_
          rintro e w10 ⟨rfl, b10⟩
          have k10 := (tr k8 b10)
          have s10 := k10.size
          have hcall := implMergeTimelines_any T T c1 c1 _ xs xs w10 (rx.below k10) (rx.below k10) s10 (by omega) (by omega) Sx Sx
          rw [HMX.out] at hcall
          have HC2 := Lib.hid hcall
          clear hcall
          go_wp2_with fail
          refine (HC2.out).mono ?_
          rintro e w11 ⟨R11, c11, rfl, o11, b11⟩
          have k11 := (tr k10 b11)
          go_wp2_with fail
          refine (samePosts_any R11 T c11 c1 w11.heap.size xs xs w11 (OwnE.rd o11) (RdE.more (rx.below k11) k11.size) (Nat.le_refl _) (by omega) (by omega)).mono ?_
          rintro e w12 ⟨rfl, b12⟩
          go_wp2_with fail
          go_ret
          exact ⟨rfl, (tr hb1 (tr k11 b12))⟩
      · have hvf : tvB ys = false := by simpa using hv'
        have hE := mergeOf_no (xs := xs) (ys := ys) (fun q => hv' q.2)
        have hz : (((mergeOf xs ys).length : Int) == 0) = true := by rw [hE]; rfl
        clear hv' hE
        go_wp2_with (go_at_call 17; refine (alive_any _).mono ?_; rintro e w' ⟨rfl, rfl⟩)
        go_ret
        exact ⟨rfl, (tr hb1 k8)⟩
    · have hvf : tvB xs = false := by simpa using hv
      have hE := mergeOf_no (xs := xs) (ys := ys) (fun q => hv q.1)
      have hz : (((mergeOf xs ys).length : Int) == 0) = true := by rw [hE]; rfl
      clear hv hE
      go_wp2_with (go_at_call 17; refine (alive_any _).mono ?_; rintro e w' ⟨rfl, rfl⟩)
      go_ret
      exact ⟨rfl, (tr hb1 k7)⟩
  · have hd : decide (1048576 < (cs.length : Int)) = true := decide_eq_true (by omega)
    go_enter Try.func10, Try.ntmps10
    go_wp2
    go_ret
    exact ⟨rfl, Below.refl _ _⟩
end Go.Proofs.Ythkdofflfaikgaa
