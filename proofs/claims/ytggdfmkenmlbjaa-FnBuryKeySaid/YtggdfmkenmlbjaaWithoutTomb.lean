import Derived.Test.YtggdfmkenmlbjaaTomb
import Derived.Test.YtggdfmkenmlbjaaTail
namespace Go.Proofs.Ytggdfmkenmlbjaa
open Go.RowKit
set_option maxHeartbeats 400000 in
theorem withoutAtTomb_any (A : Option Addr) (cap B : Nat) (xs : List ElTomb) (k : Nat) (w : World) (h : RdE 2 encTomb w B A xs) (hB : B ≤ w.heap.size) (hS : Shp A xs.length cap) (hk : k < xs.length) (hl : xs.length ≤ 1000000) :
    Calls Try.prog 49 #[.slice A xs.length cap, .int .i64 k] w fun e w' => ∃ T cap', e = .returned (.slice T (xs.take k ++ xs.drop (k + 1)).length cap') ∧ OwnE 2 encTomb 35 w' w.heap.size T cap' (xs.take k ++ xs.drop (k + 1)) ∧ Below w.heap.size w w' := by
  have hmk := mk_run0 (P := Try.prog) 25 35 _ _ _ Try.underlying25 info_Tomb (xs.length : Int) (by omega) (by omega) (by omega)
  rw [Int.toNat_natCast] at hmk
  have hlk : (xs.take k).length = k := by simp; omega
  have hld : (xs.drop (k + 1)).length = xs.length - (k + 1) := List.length_drop
  have hcp : xs.length ≤ cap := by rcases hS with ⟨_, h1, h2⟩ | ⟨_, _, _, h1, _⟩ <;> omega
  have sl1 : ∀ W, (Instr.slice 25 (.slice A xs.length cap) none (some (.int .i64 (k : Int))) none).run Try.prog W = .ok (.slice (tlA A cap 0 2) k cap) W := fun W => run_upto Try.underlying25 info_Tomb A xs.length cap k (by omega) W
  have sl2 : ∀ W, (Instr.slice 25 (.slice A xs.length cap) (some (.int .i64 ((k : Int) + 1))) none none).run Try.prog W = .ok (.slice (tlA A cap (k + 1) 2) (xs.length - (k + 1)) (cap - (k + 1))) W := fun W => run_from (k := k + 1) Try.underlying25 info_Tomb A xs.length cap (by omega) W
  have hb0 : Below w.heap.size w (w.alloc (.cells (madeCells #[.string ByteArray.empty, .int .i64 0] (xs.length * 2)) 35)) := (Below.refl _ _).alloc (Nat.le_refl _) _
  have hm : Own (w.alloc (.cells (madeCells #[.string ByteArray.empty, .int .i64 0] (xs.length * 2)) 35)) w.heap.size 35 2 (some ⟨w.heap.size, 0, none⟩) 0 xs.length (cE 2 encTomb ([] : List ElTomb)) := Own.cap0 w 35 2 xs.length w.heap.size (madeCells #[.string ByteArray.empty, .int .i64 0] (xs.length * 2)) (cE 2 encTomb ([] : List ElTomb)) (Nat.le_refl _) (by simp only [maxLen]; omega) (size_madeCells _ _)
  have hr1 := (RdE.head h cap k).below (hb0.mono hB)
  have hr2 := (RdE.tail h hS (k + 1) (by omega)).below (hb0.mono hB)
  have HL := Lib.hid hlk; have HD := Lib.hid hld
  clear hlk hld h
  go_enter Try.func49, Try.ntmps49
  go_wp2_with (first
    | (at_builtin; refine wpList_app rfl (.tmp 9) (.tmp 12) _ rfl w.heap.size 35 _ 2 24 Try.underlying25 info_Tomb rfl (by omega) (some ⟨w.heap.size, 0, none⟩) (tlA A cap 0 2) 0 xs.length k cap B (cE 2 encTomb ([] : List ElTomb)) (cE 2 encTomb (xs.take k)) rfl rfl hm (RdE.len hr1 HL.out) (fun _ _ => encTomb_one _ _) (by simp only [maxLen]; omega) (by omega) hb0.size ?_; intro T1 cap1 w1 hown1 hg1; have hb1 := hb0.trans (grown_below hg1 (fun b hb => (hm.lt hb).1) hb0.size); have hown1' := OwnE.first hown1 HL.out; have hr3 := hr2.below ((grown_below hg1 (fun b hb => (hm.lt hb).1) hb0.size).mono hB); have z1 := hb1.size; clear hown1 hg1 hr1 hr2)
    | (at_builtin; refine wpList_app rfl (.tmp 14) (.tmp 18) _ rfl w.heap.size 35 _ 2 24 Try.underlying25 info_Tomb rfl (by omega) T1 (tlA A cap (k + 1) 2) k cap1 (xs.length - (k + 1)) (cap - (k + 1)) B (cE 2 encTomb (xs.take k)) (cE 2 encTomb (xs.drop (k + 1))) rfl (by simp [go_sem]) (OwnE.own hown1' HL.out) (RdE.len hr3 HD.out) (fun _ _ => encTomb_one _ _) (by simp only [maxLen]; omega) (by omega) hb1.size ?_; intro T3 cap3 w3 hown3 hg3))
  go_ret
  have hown3' := OwnE.join (by omega) HL.out HD.out hown3
  exact ⟨T3, cap3, by rw [List.length_append, HL.out, HD.out]; rfl, hown3', hb1.trans (grown_below hg3 (fun b hb => (Own.lt hown1' hb).1) hb1.size)⟩
end Go.Proofs.Ytggdfmkenmlbjaa
