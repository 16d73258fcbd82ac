/- The draw of FnBridgeValid. -/
import Derived.Test.YtfnmlffpnmmcdaaDrawBridge
namespace Go.Proofs.Ytfnmlffpnmmcdaa
open Go.RowKit
def DrawnBr (w : World) (e : Ending) (w' : World) : Prop := ∃ (who : ElHandle) (I : Option Addr) (ci : Nat) (is : List ElItem) (F : Option Addr) (cf : Nat) (fs : List ElHandle) (nx : Int), e = .returned (.agg #[.string who.1, .string who.2, .slice I is.length ci, .slice F fs.length cf, .int .i64 nx]) ∧ (who.1.size ≤ 9 ∧ who.2.size ≤ 9) ∧ (is.length ≤ 7 ∧ ∀ x ∈ is, x.1.size ≤ 81 ∧ x.2.1.size ≤ 81 ∧ x.2.2.1.size ≤ 81) ∧ (fs.length ≤ 6 ∧ ∀ x ∈ fs, x.1.size ≤ 9 ∧ x.2.size ≤ 9) ∧ (-1 ≤ nx ∧ nx ≤ 1000001) ∧ OwnE 4 encItem 68 w' w.heap.size I ci is ∧ OwnE 2 encHandle 24 w' w.heap.size F cf fs ∧ Below w.heap.size w w'
set_option maxHeartbeats 800000 in
theorem DrawBridgeValid_any (A : Option Addr) (cap B : Nat) (cs : List Int) (w : World) (h : RdU w B A cs) (hB : B ≤ w.heap.size) (hb : ∀ j, 0 ≤ PP.at_ cs j ∧ PP.at_ cs j ≤ 255) (hc : cs.length ≤ cap) (hl : cs.length ≤ 1048576) :
    Calls Try.prog 5 #[.slice A cs.length cap] w (DrawnBr w) := by
  have oR : Own (w.alloc (.cells #[.string { data := #[] }, .string { data := #[] }, .slice none 0 0, .slice none 0 0, .int .i64 0] 28)) w.heap.size 28 5 (some ⟨w.heap.size, 0, none⟩) 1 1 zBr := Own.lit w 28 5 1 #[.string { data := #[] }, .string { data := #[] }, .slice none 0 0, .slice none 0 0, .int .i64 0] zBr (by simp only [maxLen]; omega) rfl
  have hbA : Below w.heap.size w (w.alloc (.cells #[.string { data := #[] }, .string { data := #[] }, .slice none 0 0, .slice none 0 0, .int .i64 0] 28)) := (Below.refl _ _).alloc (Nat.le_refl _) _
  have hzA : w.heap.size < (w.alloc (.cells #[.string { data := #[] }, .string { data := #[] }, .slice none 0 0, .slice none 0 0, .int .i64 0] 28)).heap.size := by simp
  have hA : RdU (w.alloc (.cells #[.string { data := #[] }, .string { data := #[] }, .slice none 0 0, .slice none 0 0, .int .i64 0] 28)) B A cs := h.below (hbA.mono hB)
  go_enter Try.func5, Try.ntmps5
  go_wp2_with fail
  generalize (w.alloc (.cells #[.string { data := #[] }, .string { data := #[] }, .slice none 0 0, .slice none 0 0, .int .i64 0] 28)) = wA at *
  refine (l20Open_any A cap B cs wA hA (Nat.le_trans hB hbA.size) hb hc hl).mono ?_
  rintro e w1 ⟨rfl, hr1, hb1⟩
  have hlt := hr1.lt
  have hs1 := hb1.size
  go_wp2_with fail
  refine (l20Bridge_any _ 0 _ _ hr1 (by omega) (by omega) (by omega)).mono ?_
  rintro e w2 ⟨who, I, ci, is, F, cf, fs, nx, rfl, hw, hi, hf, hn, oI, oF, hr2, hg2⟩
  have HI := Lib.hid hi
  have HF := Lib.hid hf
  clear hi hf
  have oR2 := Own.kept (Own.below oR hb1) hg2 (.inr (by simp [blk]; omega))
  have hb2 := hbA.trans ((hb1.mono (by omega)).trans ((Below.refl _ _).grown hg2 (by omega) (fun i hi => by injection hi with hi; omega)))
  have r0 : _ = some (Value.string { data := #[] }) := oR2.cell (b := w.heap.size) rfl (j := 0) (by omega)
  have rf0 := oR2.frozen (b := w.heap.size) rfl 0
  have r1 : _ = some (Value.string { data := #[] }) := oR2.cell (b := w.heap.size) rfl (j := 1) (by omega)
  have rf1 := oR2.frozen (b := w.heap.size) rfl 1
  have r2 : _ = some (Value.slice none 0 0) := oR2.cell (b := w.heap.size) rfl (j := 2) (by omega)
  have rf2 := oR2.frozen (b := w.heap.size) rfl 2
  have r3 : _ = some (Value.slice none 0 0) := oR2.cell (b := w.heap.size) rfl (j := 3) (by omega)
  have rf3 := oR2.frozen (b := w.heap.size) rfl 3
  have r4 : _ = some (Value.int .i64 0) := oR2.cell (b := w.heap.size) rfl (j := 4) (by omega)
  have rf4 := oR2.frozen (b := w.heap.size) rfl 4
  have G1 := Own.more (base' := w.heap.size) (own_set (own_set (own_set (own_set (own_set oI w.heap.size 0 (Value.string who.1) (by omega)) w.heap.size 1 (Value.string who.2) (by omega)) w.heap.size 2 (Value.slice I is.length ci) (by omega)) w.heap.size 3 (Value.slice F fs.length cf) (by omega)) w.heap.size 4 (Value.int .i64 nx) (by omega)) (by omega)
  have G2 := Own.more (base' := w.heap.size) (own_set (own_set (own_set (own_set (own_set oF w.heap.size 0 (Value.string who.1) (by omega)) w.heap.size 1 (Value.string who.2) (by omega)) w.heap.size 2 (Value.slice I is.length ci) (by omega)) w.heap.size 3 (Value.slice F fs.length cf) (by omega)) w.heap.size 4 (Value.int .i64 nx) (by omega)) (by omega)
  have K := (((((hb2.setCell (p := ⟨w.heap.size, 0, none⟩) (Nat.le_refl _) (Value.string who.1)).setCell (p := ⟨w.heap.size, 1, none⟩) (Nat.le_refl _) (Value.string who.2)).setCell (p := ⟨w.heap.size, 2, none⟩) (Nat.le_refl _) (Value.slice I is.length ci)).setCell (p := ⟨w.heap.size, 3, none⟩) (Nat.le_refl _) (Value.slice F fs.length cf)).setCell (p := ⟨w.heap.size, 4, none⟩) (Nat.le_refl _) (Value.int .i64 nx))
  clear oI oF oR oR2 hb2 hb1 hg2
  go_wp2_with fail
  exact bodyPost_ret (v := .agg #[.string who.1, .string who.2, .slice I is.length ci, .slice F fs.length cf, .int .i64 nx]) (by simp [results, Try.results5, go_sem, r0, r1, r2, r3, r4, rf0, rf1, rf2, rf3, rf4]) rfl ⟨who, I, ci, is, F, cf, fs, nx, rfl, hw, HI.out, HF.out, hn, G1, G2, K⟩
end Go.Proofs.Ytfnmlffpnmmcdaa
