import Derived.Test.YtdcppbaahoimfaaDrawnMoves
import Derived.Test.YtdcppbaahoimfaaMoveC
import Derived.Test.YtdcppbaahoimfaaMoveD
import Derived.Test.YtdcppbaahoimfaaTail
import Derived.Test.YtdcppbaahoimfaaOnceMove
namespace Go.Proofs.Ytdcppbaahoimfaa
open Go.RowKit PP
set_option maxHeartbeats 800000 in
theorem FnMovesValid_walk (A : Option Addr) (cap : Nat) (cs : List Int) (w : World) (h : Rd w w.heap.size 1 A cs.length (fun j => .int .u8 (at_ cs j))) (hc : cs.length ≤ cap) (_ : cap ≤ maxLen) (hwf : ∀ n ∈ cs, (Lit.int .u8 n).wf = true) :
    Calls Try.prog 3 #[.slice A cs.length cap] w fun e w' => e = .returned (.bool true) ∧ Below w.heap.size w w' := by
  by_cases hs : cs.length ≤ 1048576
  · have hd : decide (1048576 < (cs.length : Int)) = false := decide_eq_false (by omega)
    have hbyte := Lib.hid (byte_bounds hwf)
    clear hwf
    go_enter Try.func3, Try.ntmps3
    go_wp2_with fail
    refine (DrawMovesValid_any A cap _ cs w h (Nat.le_refl _) hbyte.out hc hs).mono ?_
    rintro e w1 ⟨T, cap', xs, rfl, hx, hsz, hown, hb1⟩
    have hbs := bne_self (mvB xs)
    have hs1 := hb1.size
    have HSZ := Lib.hid hsz; clear hsz
    go_wp2_with fail
    refine (implMovesValid_any _ _ _ xs _ (OwnE.rd hown) (Nat.le_refl _) (by omega) (capLe_own hown) (HSZ.out)).mono ?_
    rintro e w2 ⟨rfl, hb2⟩
    have hs2 := hb2.size
    have hown2 := Own.below hown hb2
    go_wp2_with fail
    refine (specMovesValid_any _ _ _ xs _ (OwnE.rd hown2) (Nat.le_refl _) (by omega) (HSZ.out)).mono ?_
    rintro e w3 ⟨rfl, hb3⟩
    have hs3 := hb3.size
    have hown3 := Own.below hown2 hb3
    have hbw := (hb1.trans (hb2.mono hs1)).trans (hb3.mono (by omega))
    clear hown hown2 hb1 hb2 hb3
    by_cases hv : mvB xs = true
    · by_cases h0 : xs.length = 0
      · have hne : ((xs.length : Int) == 0) = true := beq_iff_eq.2 (by omega)
        clear h0
        go_wp2_with (go_at_call 14; refine (alive_any _).mono ?_; rintro e w' ⟨rfl, rfl⟩)
        go_ret
        exact ⟨rfl, hbw⟩
      · have hpos : 0 < xs.length := by omega
        have hne : ((xs.length : Int) == 0) = false := beq_eq_false_iff_ne.2 (by omega)
        have hlt : (xs.drop 1).length = xs.length - 1 := List.length_drop
        have htk := mvB_tail hv
        have htw := mvB_twice' hpos
        clear h0
        rcases hown3.shape with ⟨_, hz, _⟩ | ⟨b, rfl, hbb, hbl, hcp, hmx⟩
        · omega
        · unfold maxLen at hmx
          have hrd3 := OwnE.rd hown3
          have hsl : ∀ W, (Instr.slice 23 (.slice (some ⟨b, 0, none⟩) xs.length cap') (some (.int .i64 1)) none none).run Try.prog W = .ok (.slice (tlA (some ⟨b, 0, none⟩) cap' 1 4) (xs.length - 1) (cap' - 1)) W := fun W => run_from (k := 1) Try.underlying23 info_Move _ _ _ (by omega) W
          have hcall := implMovesValid_any (tlA (some ⟨b, 0, none⟩) cap' 1 4) (cap' - 1) w3.heap.size (xs.drop 1) w3 (RdE.tail hrd3 (Own.shp hown3) 1 (by omega)) (Nat.le_refl _) (by omega) (by omega) (drop_szMove HSZ.out 1)
          rw [hlt, htk] at hcall
          have HC := Lib.hid hcall
          have HT := Lib.hid htw
          clear hcall htk htw
          have c0 : w3.cell? ⟨b, 0, none⟩ = some (Value.string (((gt xs 0).1.1))) := Own.cell hown3 rfl (j := 0) (by omega)
          have c1 : w3.cell? ⟨b, 1, none⟩ = some (Value.string (((gt xs 0).1.2))) := Own.cell hown3 rfl (j := 1) (by omega)
          have c2 : w3.cell? ⟨b, 2, none⟩ = some (Value.string (((gt xs 0).2.1))) := Own.cell hown3 rfl (j := 2) (by omega)
          have c3 : w3.cell? ⟨b, 3, none⟩ = some (Value.string (((gt xs 0).2.2))) := Own.cell hown3 rfl (j := 3) (by omega)
          go_wp2_with fail
          refine (HC.out).mono ?_
          rintro e w4 ⟨rfl, hb4⟩
          have hs4 := hb4.size
          have d0 := (hb4.cell (p := ⟨b, 0, none⟩) hbl).trans c0
          have d1 := (hb4.cell (p := ⟨b, 1, none⟩) hbl).trans c1
          have d2 := (hb4.cell (p := ⟨b, 2, none⟩) hbl).trans c2
          have d3 := (hb4.cell (p := ⟨b, 3, none⟩) hbl).trans c3
          clear c0 c1 c2 c3
          have hr4 : RdE 4 encMove (w4.alloc (.cells #[.string ((gt xs 0).1.1), .string ((gt xs 0).1.2), .string ((gt xs 0).2.1), .string ((gt xs 0).2.2)] 30)) w3.heap.size (some ⟨b, 0, none⟩) xs := (hrd3.below hb4).alloc hs4 _
          have ho4 : Own (w4.alloc (.cells #[.string ((gt xs 0).1.1), .string ((gt xs 0).1.2), .string ((gt xs 0).2.1), .string ((gt xs 0).2.2)] 30)) w3.heap.size 30 4 (some ⟨w4.heap.size, 0, none⟩) 1 1 (cE 4 encMove [gt xs 0]) := Own.more (Own.lit w4 30 4 1 _ (cE 4 encMove [gt xs 0]) (by simp only [maxLen]; omega) rfl) hs4
          have hb5 : Below w3.heap.size w3 (w4.alloc (.cells #[.string ((gt xs 0).1.1), .string ((gt xs 0).1.2), .string ((gt xs 0).2.1), .string ((gt xs 0).2.2)] 30)) := hb4.alloc hs4 _
          go_wp2_with (at_builtin; refine wpList_appG (by first | rfl | simp [Region.wanted, yielded]) (.tmp 31) (.tmp 32) _ rfl w3.heap.size 30 _ 4 64 Try.underlying23 info_Move rfl (by omega) (some ⟨w4.heap.size, 0, none⟩) (some ⟨b, 0, none⟩) 1 1 xs.length cap' w3.heap.size (cE 4 encMove [gt xs 0]) (cE 4 encMove xs) rfl rfl ho4 hr4 (fun _ _ => encMove_one _ _) (by simp only [maxLen]; omega) (by omega) hb5.size ?_; intro T6 cap6 w6 hown6 hg6)
          have hb6 := hb5.trans (grown_below hg6 (fun b hb => (Own.lt ho4 hb).1) hb5.size)
          have hs6 := hb6.size
          have hown6' : OwnE 4 encMove 30 w6 w3.heap.size T6 cap6 ([gt xs 0] ++ xs) := OwnE.join (by omega) rfl rfl hown6
          have hcall2 := implMovesValid_any T6 cap6 w6.heap.size ([gt xs 0] ++ xs) w6 (OwnE.rd hown6') (Nat.le_refl _) (by rw [List.length_append, List.length_singleton]; omega) (capLe_own hown6') (cons_szMove HSZ.out hpos)
          rw [HT.out, List.length_append, List.length_singleton] at hcall2
          refine hcall2.mono ?_
          rintro e w7 ⟨rfl, hb7⟩
          go_wp2_with fail
          go_ret
          exact ⟨rfl, (hbw.trans (hb6.mono (by omega))).trans (hb7.mono (by omega))⟩
    · have hv' : mvB xs = false := by simpa using hv
      clear hv
      go_wp2_with (go_at_call 14; refine (alive_any _).mono ?_; rintro e w' ⟨rfl, rfl⟩)
      go_ret
      exact ⟨rfl, hbw⟩
  · have hd : decide (1048576 < (cs.length : Int)) = true := decide_eq_true (by omega)
    go_enter Try.func3, Try.ntmps3
    go_wp2
    go_ret
    exact ⟨rfl, Below.refl _ _⟩
end Go.Proofs.Ytdcppbaahoimfaa
