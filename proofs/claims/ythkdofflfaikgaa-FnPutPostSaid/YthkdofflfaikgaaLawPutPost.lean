import Derived.Test.YthkdofflfaikgaaDrawTime2
import Derived.Test.YthkdofflfaikgaaTimeH
import Derived.Test.YthkdofflfaikgaaTimeF
import Derived.Test.YthkdofflfaikgaaWords
import Derived.Test.YthkdofflfaikgaaChain
namespace Go.Proofs.Ythkdofflfaikgaa
open Go.RowKit PP
set_option maxRecDepth 100000 in
set_option maxHeartbeats 3200000 in
theorem FnPutPost_walk (A : Option Addr) (cap : Nat) (cs : List Int) (w : World) (h : Rd w w.heap.size 1 A cs.length (fun j => .int .u8 (at_ cs j))) (hc : cs.length ≤ cap) (_ : cap ≤ maxLen) (hwf : ∀ n ∈ cs, (Lit.int .u8 n).wf = true) :
    Calls Try.prog 9 #[.slice A cs.length cap] w fun e w' => e = .returned (.bool true) ∧ Below w.heap.size w w' := by
  by_cases hs : cs.length ≤ 1048576
  · have hd : decide (1048576 < (cs.length : Int)) = false := decide_eq_false (by omega)
    have hbyte := Lib.hid (byte_bounds hwf)
    clear hwf
    go_enter Try.func9, Try.ntmps9
    go_wp2_with fail
    refine (DrawPutPost_any A cap _ cs w h (Nat.le_refl _) hbyte.out hc hs).mono ?_
    rintro e w1 ⟨T, c1, xs, p, rfl, hx, o1, hb1⟩
    have hs1 := hb1.size
    have hp0 : (w1.alloc (.cells #[.int .i64 p.1, .int .i64 p.2] 33)).cell? ⟨w1.heap.size, 0, none⟩ = some (.int .i64 p.1) := by rw [World.cell?_alloc_at _ _ _ _ rfl]; rfl
    have hp1 : (w1.alloc (.cells #[.int .i64 p.1, .int .i64 p.2] 33)).cell? ⟨w1.heap.size, 1, none⟩ = some (.int .i64 p.2) := by rw [World.cell?_alloc_at _ _ _ _ rfl]; rfl
    have hbB : Below w1.heap.size w1 (w1.alloc (.cells #[.int .i64 p.1, .int .i64 p.2] 33)) := (Below.refl _ _).alloc (Nat.le_refl _) _
    have hzB : w1.heap.size < (w1.alloc (.cells #[.int .i64 p.1, .int .i64 p.2] 33)).heap.size := by simp
    have Sx := Own.shp o1
    have rx := OwnE.rd (Own.below o1 hbB)
    have hL := putOf_len40 xs p
    have hself := sameB_self (putOf xs p)
    have hbs := bne_self (putOk xs p)
    go_wp2_with fail
    generalize (w1.alloc (.cells #[.int .i64 p.1, .int .i64 p.2] 33)) = wB at *
    have hb1 := (tr hb1 hbB)
    clear o1 hbB
    refine (implPutPost_any T c1 _ xs p wB rx (Nat.le_refl _) (by omega) Sx).mono ?_
    rintro e w2 ⟨R, c2, rfl, o2, b2⟩
    have s2 := b2.size
    have SM := Own.shp o2
    have q20 := (b2.cell (p := ⟨w1.heap.size, 0, none⟩) hzB).trans hp0
    have q21 := (b2.cell (p := ⟨w1.heap.size, 1, none⟩) hzB).trans hp1
    go_wp2_with fail
    refine (specPutPost_any T c1 _ xs p w2 (rx.below b2) s2 (by omega) Sx).mono ?_
    rintro e w3 ⟨R3, c3, rfl, o3, b3⟩
    have k3 := (tr b2 b3)
    have s3 := k3.size
    have o2_3 := Own.below o2 b3
    go_wp2_with fail
    refine (samePosts_any R R3 c2 c3 w3.heap.size (putOf xs p) (putOf xs p) w3 (OwnE.rd o2_3) (OwnE.rd o3) (Nat.le_refl _) (by omega) (by omega)).mono ?_
    rintro e w4 ⟨rfl, b4⟩
    have k4 := (tr k3 b4)
    have m4 := (tr b3 b4)
    have s4 := k4.size
    have q40 := (k4.cell (p := ⟨w1.heap.size, 0, none⟩) hzB).trans hp0
    have q41 := (k4.cell (p := ⟨w1.heap.size, 1, none⟩) hzB).trans hp1
    have o2_4 := Own.below o2 m4
    clear q20 q21 o3 o2_3
    cases hok : putOk xs p
    · have hbf : (putOk xs p) = false := hok
      clear hok hbs
      rcases putOf_bad_or hbf with hE | hE
      · have hsm : sameB (putOf xs p) xs = true := by rw [hE]; exact sameB_self xs
        have HE := Lib.hid hE
        clear hE
        go_wp2_with (first | (go_at_call 28; refine (samePosts_any R T c2 c1 w4.heap.size (putOf xs p) xs w4 (OwnE.rd o2_4) (RdE.more (rx.below k4) s4) (Nat.le_refl _) (by omega) (by omega)).mono ?_; rintro e w5 ⟨rfl, b5⟩) | (go_at_call 17; refine (alive_any _).mono ?_; rintro e w' ⟨rfl, rfl⟩))
        go_ret
        exact ⟨rfl, (tr hb1 (tr k4 b5))⟩
      · have hz : (((putOf xs p).length : Int) == 0) = true := by rw [hE]; rfl
        have HE := Lib.hid hE
        clear hE
        cases hsm : sameB (putOf xs p) xs
        ·
          go_wp2_with (first | (go_at_call 28; refine (samePosts_any R T c2 c1 w4.heap.size (putOf xs p) xs w4 (OwnE.rd o2_4) (RdE.more (rx.below k4) s4) (Nat.le_refl _) (by omega) (by omega)).mono ?_; rintro e w5 ⟨rfl, b5⟩) | (go_at_call 17; refine (alive_any _).mono ?_; rintro e w' ⟨rfl, rfl⟩))
          go_ret
          exact ⟨rfl, (tr hb1 (tr k4 b5))⟩
        ·
          go_wp2_with (first | (go_at_call 28; refine (samePosts_any R T c2 c1 w4.heap.size (putOf xs p) xs w4 (OwnE.rd o2_4) (RdE.more (rx.below k4) s4) (Nat.le_refl _) (by omega) (by omega)).mono ?_; rintro e w5 ⟨rfl, b5⟩) | (go_at_call 17; refine (alive_any _).mono ?_; rintro e w' ⟨rfl, rfl⟩))
          go_ret
          exact ⟨rfl, (tr hb1 (tr k4 b5))⟩
    · have hag := putOk_again hok
      obtain ⟨hpm, hpv⟩ := put_merge hok
      have hln := putOf_len1 hok
      have hlnI : (((putOf xs p).length : Int) == (xs.length : Int) + 1) = true := beq_iff_eq.2 (by omega)
      have HLN := Lib.hid hln
      clear hok hbs hln
      have hcall := implPutPost_any R c2 _ (putOf xs p) p w4 (OwnE.rd o2_4) (Nat.le_refl _) (by omega) SM
      rw [hag] at hcall
      have HC := Lib.hid hcall
      clear hcall hag
      go_wp2_with fail
      refine (HC.out).mono ?_
      rintro e w5 ⟨R5, c5, rfl, o5, b5⟩
      have k5 := (tr k4 b5)
      have m5 := (tr m4 b5)
      have s5 := k5.size
      have q50 := (k5.cell (p := ⟨w1.heap.size, 0, none⟩) hzB).trans hp0
      have q51 := (k5.cell (p := ⟨w1.heap.size, 1, none⟩) hzB).trans hp1
      clear q40 q41 hp0 hp1
      have hb6 : Below wB.heap.size wB (w5.alloc (.cells #[.int .i64 p.1, .int .i64 p.2] 33)) := k5.alloc s5 _
      have o6 : OwnE 2 encPost 33 (w5.alloc (.cells #[.int .i64 p.1, .int .i64 p.2] 33)) w5.heap.size (some ⟨w5.heap.size, 0, none⟩) 1 [p] := Own.lit w5 33 2 1 _ (cE 2 encPost [p]) (by simp only [maxLen]; omega) rfl
      have m6 : Below w2.heap.size w2 (w5.alloc (.cells #[.int .i64 p.1, .int .i64 p.2] 33)) := m5.alloc m5.size _
      have hcall := implMergeTimelines_any T (some ⟨w5.heap.size, 0, none⟩) c1 1 (w5.alloc (.cells #[.int .i64 p.1, .int .i64 p.2] 33)).heap.size xs [p] _ (RdE.more (rx.below hb6) hb6.size) (OwnE.rd o6) (Nat.le_refl _) (by omega) (by simp) Sx (Own.shp o6)
      rw [hpm, List.length_singleton] at hcall
      have HC2 := Lib.hid hcall
      clear hcall hpm
      go_wp2_with fail
      refine (HC2.out).mono ?_
      rintro e w7 ⟨R7, c7, rfl, o7, b7⟩
      have k7 := (tr hb6 b7)
      have o2_7 := Own.below o2 (tr m6 b7)
      go_wp2_with fail
      refine (samePosts_any R7 R c7 c2 w7.heap.size (putOf xs p) (putOf xs p) w7 (OwnE.rd o7) (OwnE.rd o2_7) (Nat.le_refl _) (by omega) (by omega)).mono ?_
      rintro e w8 ⟨rfl, b8⟩
      go_wp2_with fail
      go_ret
      exact ⟨rfl, (tr hb1 (tr k7 b8))⟩
  · have hd : decide (1048576 < (cs.length : Int)) = true := decide_eq_true (by omega)
    go_enter Try.func9, Try.ntmps9
    go_wp2
    go_ret
    exact ⟨rfl, Below.refl _ _⟩
end Go.Proofs.Ythkdofflfaikgaa
