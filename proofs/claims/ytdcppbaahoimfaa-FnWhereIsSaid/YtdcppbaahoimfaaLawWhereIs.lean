import Derived.Test.YtdcppbaahoimfaaDrawnMoves
import Derived.Test.YtdcppbaahoimfaaWhereA
import Derived.Test.YtdcppbaahoimfaaWhereB
import Derived.Test.YtdcppbaahoimfaaTail
import Derived.Test.YtdcppbaahoimfaaWords
namespace Go.Proofs.Ytdcppbaahoimfaa
open Go.RowKit PP
set_option maxRecDepth 100000 in
set_option maxHeartbeats 1600000 in
theorem FnWhereIs_walk (A : Option Addr) (cap : Nat) (cs : List Int) (w : World) (h : Rd w w.heap.size 1 A cs.length (fun j => .int .u8 (at_ cs j))) (hc : cs.length ≤ cap) (_ : cap ≤ maxLen) (hwf : ∀ n ∈ cs, (Lit.int .u8 n).wf = true) :
    Calls Try.prog 5 #[.slice A cs.length cap] w fun e w' => e = .returned (.bool true) ∧ Below w.heap.size w w' := by
  by_cases hs : cs.length ≤ 1048576
  · have hd : decide (1048576 < (cs.length : Int)) = false := decide_eq_false (by omega)
    have hbyte := Lib.hid (byte_bounds hwf)
    clear hwf
    go_enter Try.func5, Try.ntmps5
    go_wp2_with fail
    refine (DrawWhereIs_any A cap _ cs w h (Nat.le_refl _) hbyte.out hc hs).mono ?_
    rintro e w1 ⟨T, cap', xs, hd, rfl, hx, hsz, hhd, hown, hb1⟩
    obtain ⟨x, y⟩ := hd
    obtain ⟨hsx, hsy⟩ : x.size ≤ maxLen ∧ y.size ≤ maxLen := hhd
    have HSZ := Lib.hid hsz
    clear hsz
    have hs1 := hb1.size
    have e0 : (w1.alloc (.cells #[.string x, .string y] 28)).cell? ⟨w1.heap.size, 0, none⟩ = some (Value.string x) := by rw [World.cell?_alloc_at _ _ _ _ rfl]; rfl
    have e1 : (w1.alloc (.cells #[.string x, .string y] 28)).cell? ⟨w1.heap.size, 1, none⟩ = some (Value.string y) := by rw [World.cell?_alloc_at _ _ _ _ rfl]; rfl
    have hownA := Own.below hown (below_new w1 (.cells #[.string x, .string y] 28))
    have hbA := hb1.alloc hs1 (.cells #[.string x, .string y] 28)
    have hzA : w1.heap.size < (w1.alloc (.cells #[.string x, .string y] 28)).heap.size := by simp
    clear hown hb1
    go_wp2_with fail
    generalize (w1.alloc (.cells #[.string x, .string y] 28)) = wA at *
    have hsA := hbA.size
    refine (implWhereIs_any _ _ _ xs (x, y) wA (OwnE.rd hownA) (Nat.le_refl _) (by omega) (capLe_own hownA) HSZ.out hsx hsy).mono ?_
    rintro e w2 ⟨rfl, hb2⟩
    obtain ⟨u, v, huv⟩ : ∃ u v, whereOf xs (x, y) = (u, v) := ⟨_, _, rfl⟩
    have HUV := Lib.hid huv
    rw [huv]
    clear huv
    have hownB := Own.below hownA hb2
    have hbB := hbA.trans (hb2.mono hbA.size)
    have a0 := (hb2.cell (p := ⟨w1.heap.size, 0, none⟩) hzA).trans e0
    have a1 := (hb2.cell (p := ⟨w1.heap.size, 1, none⟩) hzA).trans e1
    have hs2 := hb2.size
    clear hownA e0 e1 hb2
    have g0 : (w2.alloc (.cells #[.string u, .string v] 28)).cell? ⟨w2.heap.size, 0, none⟩ = some (Value.string u) := by rw [World.cell?_alloc_at _ _ _ _ rfl]; rfl
    have g1 : (w2.alloc (.cells #[.string u, .string v] 28)).cell? ⟨w2.heap.size, 1, none⟩ = some (Value.string v) := by rw [World.cell?_alloc_at _ _ _ _ rfl]; rfl
    have k0 := cellOn a0 (by show w1.heap.size < _; omega) (below_new w2 (.cells #[.string u, .string v] 28))
    have k1 := cellOn a1 (by show w1.heap.size < _; omega) (below_new w2 (.cells #[.string u, .string v] 28))
    have hownC := Own.below hownB (below_new w2 (.cells #[.string u, .string v] 28))
    have hbC := hbB.alloc hbB.size (.cells #[.string u, .string v] 28)
    have hzC : w2.heap.size < (w2.alloc (.cells #[.string u, .string v] 28)).heap.size := by simp
    clear a0 a1 hownB hbB hbA
    go_wp2_with fail
    generalize (w2.alloc (.cells #[.string u, .string v] 28)) = wC at *
    have hzw : w1.heap.size < wC.heap.size := by omega
    have hsC := hbC.size
    have fk0 := fun (z : Bel wC.heap.size wC) => Bel.cell k0 hzw z
    have fk1 := fun (z : Bel wC.heap.size wC) => Bel.cell k1 hzw z
    have fg0 := fun (z : Bel wC.heap.size wC) => Bel.cell g0 hzC z
    have fg1 := fun (z : Bel wC.heap.size wC) => Bel.cell g1 hzC z
    have hneq : eqEl (α := ElHandle) (u, v) (u, v) = true := eqEl_true rfl
    have hnq := fun w' => neq_Handle u v u v w'
    have hgd := guard_Handle
    have hcall := fun (z : Bel wC.heap.size wC) => specWhereIs_any T cap' wC.heap.size xs (x, y) z.u ((OwnE.rd hownC).below z.h) z.h.size (by omega) HSZ.out hsx hsy
    rw [HUV.out] at hcall
    have HC := Lib.hid hcall
    clear hcall
    refine wp_region_bel wC.heap.size (by kernel_rfl) (by kernel_rfl) ?_
    repeat (go_big_quiet_step (first | (go_at_call 20; exact Calls.bel (Nat.le_refl _) (HC.out _))))
    refine wpQuiet_nil ?_
    intro _ hw'
    obtain ⟨z, hw''⟩ := hw'
    subst hw''
    have hzh := z.h
    have d0 := fk0 z
    have d1 := fk1 z
    have d2 := fg0 z
    have d3 := fg1 z
    have hbD := hbC.trans (hzh.mono hbC.size)
    have hownD := Own.below hownC hzh
    clear fk0 fk1 fg0 fg1 HC k0 k1 g0 g1
    generalize z.u = wD at *
    have hsD := hzh.size
    clear hownC hbC hzh
    go_wp2_with fail
    by_cases hv : mvB xs = true
    · by_cases hh : hvB (x, y) = true
      · skip
        refine (implMovesValid_any _ _ _ xs wD (OwnE.rd hownD) (Nat.le_refl _) (by omega) (capLe_own hownD) HSZ.out).mono ?_
        rintro e w5 ⟨rfl, hb5⟩
        have hs5 := hb5.size
        have p0 := cellOn d0 (by show w1.heap.size < _; omega) hb5
        have p1 := cellOn d1 (by show w1.heap.size < _; omega) hb5
        have p2 := cellOn d2 (by show w2.heap.size < _; omega) hb5
        have p3 := cellOn d3 (by show w2.heap.size < _; omega) hb5
        have hown5 := Own.below hownD hb5
        have hbw5 := hbD.trans (hb5.mono hbD.size)
        clear d0 d1 d2 d3 hownD hbD hb5
        go_wp2_with fail
        refine (implHandleValid_b x y w5 hsx hsy).mono ?_
        rintro e w6 ⟨rfl, hb6⟩
        have hs6 := hb6.size
        have q0 := cellOn p0 (by show w1.heap.size < _; omega) hb6
        have q1 := cellOn p1 (by show w1.heap.size < _; omega) hb6
        have q2 := cellOn p2 (by show w2.heap.size < _; omega) hb6
        have q3 := cellOn p3 (by show w2.heap.size < _; omega) hb6
        have hown6 := Own.below hown5 hb6
        have hbw6 := hbw5.trans (hb6.mono hbw5.size)
        clear p0 p1 p2 p3 hown5 hbw5 hb6
        have HW := Lib.hid (whereOf_valid hv hh)
        have HS := Lib.hid (whereOf_stk hv hh)
        have HT := Lib.hid (whereOf_twice hv hh)
        have HN := Lib.hid (fun k (hk : k < xs.length) (e : (gt xs k).1 = (x, y)) => (by rw [whereOf_to hv hk, e] : whereOf xs (gt xs k).2 = whereOf xs (x, y)))
        rw [HUV.out] at HW HS HT
        go_wp2_with fail
        clear hv hh
        go_loopw [6] (fun i wr => ∃ k : Nat, k ≤ xs.length ∧ i = .int .i64 k ∧ Below w6.heap.size w6 wr) (fun i _ => xs.length - (intOf i).toNat)
        case atStart => exact ⟨0, Nat.zero_le _, rfl, Below.refl _ _⟩
        case round =>
          obtain ⟨k, hk, rfl, hbl⟩ := hrel
          have hsl := hbl.size
          have r0 := cellOn q0 (by show w1.heap.size < _; omega) hbl
          have r1 := cellOn q1 (by show w1.heap.size < _; omega) hbl
          have r2 := cellOn q2 (by show w2.heap.size < _; omega) hbl
          have r3 := cellOn q3 (by show w2.heap.size < _; omega) hbl
          have hownR := Own.below hown6 hbl
          have hbwR := hbw6.trans (hbl.mono hbw6.size)
          have hgd := guard_Handle
          by_cases hlt : k < xs.length
          · rcases hownR.shape with ⟨_, hz, _⟩ | ⟨b, rfl, hbb, hbL, hcp, hmx⟩
            · omega
            · unfold maxLen at hmx
              have hsk := HSZ.out k hlt
              have c0 : wr.cell? ⟨b, k * 4, none⟩ = some (Value.string (gt xs k).1.1) := by have := Own.cell hownR rfl (j := k * 4 + 0) (by omega); rw [cE_at encMove xs k (by omega)] at this; exact this
              have c1 : wr.cell? ⟨b, k * 4 + 1, none⟩ = some (Value.string (gt xs k).1.2) := by have := Own.cell hownR rfl (j := k * 4 + 1) (by omega); rw [cE_at encMove xs k (by omega)] at this; exact this
              have c2 : wr.cell? ⟨b, k * 4 + 2, none⟩ = some (Value.string (gt xs k).2.1) := by have := Own.cell hownR rfl (j := k * 4 + 2) (by omega); rw [cE_at encMove xs k (by omega)] at this; exact this
              have c3 : wr.cell? ⟨b, k * 4 + 3, none⟩ = some (Value.string (gt xs k).2.2) := by have := Own.cell hownR rfl (j := k * 4 + 3) (by omega); rw [cE_at encMove xs k (by omega)] at this; exact this
              have hne : (gt xs k).1 ≠ (u, v) := stk_no HS.out hlt
              have q00 : eqEl (α := ElHandle) ((gt xs k).1.1, (gt xs k).1.2) (u, v) = false := eqEl_false hne
              have hq1 := fun w' => eql_Handle (gt xs k).1.1 (gt xs k).1.2 u v w'
              have hq2 := fun w' => eql_Handle (gt xs k).1.1 (gt xs k).1.2 x y w'
              have fr0 := fun (z : Bel wr.heap.size wr) => Bel.cell r0 (by show w1.heap.size < _; omega) z
              have fr1 := fun (z : Bel wr.heap.size wr) => Bel.cell r1 (by show w1.heap.size < _; omega) z
              have fr2 := fun (z : Bel wr.heap.size wr) => Bel.cell r2 (by show w2.heap.size < _; omega) z
              have fr3 := fun (z : Bel wr.heap.size wr) => Bel.cell r3 (by show w2.heap.size < _; omega) z
              have fc0 := fun (z : Bel wr.heap.size wr) => Bel.cell c0 hbL z
              have fc1 := fun (z : Bel wr.heap.size wr) => Bel.cell c1 hbL z
              have fc2 := fun (z : Bel wr.heap.size wr) => Bel.cell c2 hbL z
              have fc3 := fun (z : Bel wr.heap.size wr) => Bel.cell c3 hbL z
              by_cases hfr : (gt xs k).1 = (x, y)
              · have q11 : eqEl (α := ElHandle) ((gt xs k).1.1, (gt xs k).1.2) (x, y) = true := eqEl_true hfr
                have q22 : eqEl (α := ElHandle) (u, v) (u, v) = true := eqEl_true rfl
                have hnq := fun w' => neq_Handle u v u v w'
                have hcall := fun (z : Bel wr.heap.size wr) => implWhereIs_any (some ⟨b, 0, none⟩) cap' wr.heap.size xs (gt xs k).2 z.u ((OwnE.rd hownR).below z.h) z.h.size (by omega) (capLe_own hownR) HSZ.out hsk.2.2.1 hsk.2.2.2
                rw [HN.out k hlt hfr, HUV.out] at hcall
                have HC := Lib.hid hcall
                clear hcall hne hfr
                go_wp2_with fail
                refine wp_region_bel wr.heap.size (by kernel_rfl) (by kernel_rfl) ?_
                repeat (go_big_quiet_step (first | (go_at_call 19; exact Calls.bel (Nat.le_refl _) (HC.out _))))
                refine wpQuiet_nil ?_
                intro _ hw'
                obtain ⟨z, hw''⟩ := hw'
                subst hw''
                have hzh := z.h
                have hbX := hbl.trans (hzh.mono (by omega))
                generalize z.u = wX at *
                go_wp2_with fail
                go_roundw
                case rel => exact ⟨k + 1, by omega, by go_num, hbX⟩
                case measure => simp [intOf]; omega
              · have q11 : eqEl (α := ElHandle) ((gt xs k).1.1, (gt xs k).1.2) (x, y) = false := eqEl_false hfr
                clear hne hfr
                go_wp2_with fail
                refine wp_region_bel wr.heap.size (by kernel_rfl) (by kernel_rfl) ?_
                repeat (go_big_quiet_step (first | fail))
                refine wpQuiet_nil ?_
                intro _ hw'
                obtain ⟨z, hw''⟩ := hw'
                subst hw''
                have hzh := z.h
                have hbX := hbl.trans (hzh.mono (by omega))
                generalize z.u = wX at *
                go_wp2_with fail
                go_roundw
                case rel => exact ⟨k + 1, by omega, by go_num, hbX⟩
                case measure => simp [intOf]; omega
          · obtain rfl : k = xs.length := by omega
            have hq3 := fun w' => eql_Handle u v u v w'
            have q33 : eqEl (α := ElHandle) (u, v) (u, v) = true := eqEl_true rfl
            have fr2 := fun (z : Bel wr.heap.size wr) => Bel.cell r2 (by show w2.heap.size < _; omega) z
            have fr3 := fun (z : Bel wr.heap.size wr) => Bel.cell r3 (by show w2.heap.size < _; omega) z
            have huv2 := whereOf_sz HSZ.out (x := (x, y)) ⟨hsx, hsy⟩
            rw [HUV.out] at huv2
            have hcall := fun (z : Bel wr.heap.size wr) => implWhereIs_any T cap' wr.heap.size xs (u, v) z.u ((OwnE.rd hownR).below z.h) z.h.size (by omega) (capLe_own hownR) HSZ.out huv2.1 huv2.2
            rw [HT.out] at hcall
            have HC := Lib.hid hcall
            clear hcall
            go_wp2_with fail
            refine wp_region_bel wr.heap.size (by kernel_rfl) (by kernel_rfl) ?_
            repeat (go_big_quiet_step (first | (go_at_call 19; exact Calls.bel (Nat.le_refl _) (HC.out _))))
            refine wpQuiet_nil ?_
            intro _ hw'
            obtain ⟨z, hw''⟩ := hw'
            subst hw''
            have hzh := z.h
            have hbX := hbwR.trans (hzh.mono (by omega))
            generalize z.u = wX at *
            go_wp2_with fail
            go_ret
            exact ⟨rfl, hbX⟩
      · have hh' : hvB (x, y) = false := by simpa using hh
        clear hh
        obtain ⟨rfl, rfl⟩ : u = { data := #[] } ∧ v = { data := #[] } := by
          have e := HUV.out.symm.trans (whereOf_no2 (ms := xs) hh')
          injection e with e1 e2
          exact ⟨e1, e2⟩
        refine (implMovesValid_any _ _ _ xs wD (OwnE.rd hownD) (Nat.le_refl _) (by omega) (capLe_own hownD) HSZ.out).mono ?_
        rintro e w5 ⟨rfl, hb5⟩
        have hs5 := hb5.size
        have p0 := cellOn d0 (by show w1.heap.size < _; omega) hb5
        have p1 := cellOn d1 (by show w1.heap.size < _; omega) hb5
        have p2 := cellOn d2 (by show w2.heap.size < _; omega) hb5
        have p3 := cellOn d3 (by show w2.heap.size < _; omega) hb5
        have hown5 := Own.below hownD hb5
        have hbw5 := hbD.trans (hb5.mono hbD.size)
        clear d0 d1 d2 d3 hownD hbD hb5
        go_wp2_with fail
        refine (implHandleValid_b x y w5 hsx hsy).mono ?_
        rintro e w6 ⟨rfl, hb6⟩
        have hs6 := hb6.size
        have q0 := cellOn p0 (by show w1.heap.size < _; omega) hb6
        have q1 := cellOn p1 (by show w1.heap.size < _; omega) hb6
        have q2 := cellOn p2 (by show w2.heap.size < _; omega) hb6
        have q3 := cellOn p3 (by show w2.heap.size < _; omega) hb6
        have hown6 := Own.below hown5 hb6
        have hbw6 := hbw5.trans (hb6.mono hbw5.size)
        clear p0 p1 p2 p3 hown5 hbw5 hb6
        have heq := fun w' => eql_Handle { data := #[] } { data := #[] } { data := #[] } { data := #[] } w'
        have hqq : eqEl (α := ElHandle) ({ data := #[] }, { data := #[] }) ({ data := #[] }, { data := #[] }) = true := eqEl_true rfl
        go_wp2_with (go_at_call 14; refine (alive_any _).mono ?_; rintro e w' ⟨rfl, rfl⟩)
        go_ret
        exact ⟨rfl, hbw6⟩
    · have hv' : mvB xs = false := by simpa using hv
      clear hv
      obtain ⟨rfl, rfl⟩ : u = { data := #[] } ∧ v = { data := #[] } := by
        have e := HUV.out.symm.trans (whereOf_no1 (h := (x, y)) hv')
        injection e with e1 e2
        exact ⟨e1, e2⟩
      refine (implMovesValid_any _ _ _ xs wD (OwnE.rd hownD) (Nat.le_refl _) (by omega) (capLe_own hownD) HSZ.out).mono ?_
      rintro e w5 ⟨rfl, hb5⟩
      have hs5 := hb5.size
      have p0 := cellOn d0 (by show w1.heap.size < _; omega) hb5
      have p1 := cellOn d1 (by show w1.heap.size < _; omega) hb5
      have p2 := cellOn d2 (by show w2.heap.size < _; omega) hb5
      have p3 := cellOn d3 (by show w2.heap.size < _; omega) hb5
      have hown5 := Own.below hownD hb5
      have hbw5 := hbD.trans (hb5.mono hbD.size)
      clear d0 d1 d2 d3 hownD hbD hb5
      have heq := fun w' => eql_Handle { data := #[] } { data := #[] } { data := #[] } { data := #[] } w'
      have hqq : eqEl (α := ElHandle) ({ data := #[] }, { data := #[] }) ({ data := #[] }, { data := #[] }) = true := eqEl_true rfl
      go_wp2_with (go_at_call 14; refine (alive_any _).mono ?_; rintro e w' ⟨rfl, rfl⟩)
      go_ret
      exact ⟨rfl, hbw5⟩
  · have hd : decide (1048576 < (cs.length : Int)) = true := decide_eq_true (by omega)
    go_enter Try.func5, Try.ntmps5
    go_wp2
    go_ret
    exact ⟨rfl, Below.refl _ _⟩
end Go.Proofs.Ytdcppbaahoimfaa
