import Derived.Test.YtnplpllhochlfaaTomb
import Derived.Test.YtnplpllhochlfaaOpen
namespace Go.Proofs.Ytnplpllhochlfaa
open Go.ChangeShapes Go.WideShapes Go.ChangeAt Go.RowKit
/-- What is known of one that came in. -/
def okwTomb (x : ElTomb) : Prop := x.1.size ≤ maxLen ∧ (Lit.int .i64 x.2).wf = true
theorem cells_Tomb : Try.prog.cellsOf 61 = 2 := by kernel_rfl
theorem okwszTomb {x : ElTomb} (h : okwTomb x) : x.1.size ≤ maxLen := h.1
theorem okwVTomb_0 {x : ElTomb} (h : okwTomb x) : x.1.size ≤ maxLen := h.1
theorem cells_Tomb_string : Try.prog.cellsOf 9 = 1 := by kernel_rfl
theorem cells_Tomb_int : Try.prog.cellsOf 3 = 1 := by kernel_rfl
section
variable {H : Type} {enc : TypeId × Value → H} {W : World}
theorem el_Tomb (m : Nat) (cs : List Value) (y : DataW H × List MemPlace) (h : DataW.trod enc Try.prog W 0 (fun _ => true) true m 61 cs = some y) : ∃ x : ElTomb, okwTomb x ∧ ∀ j, j < 2 → cs[j]? = some (encTomb x j) := by
  obtain ⟨xs, k, _, _, hlen, hxl, hf⟩ := DataW.trod_struct Try.underlying61 h
  have hlen' : cs.length = 2 := hlen.trans cells_Tomb
  match cs, hlen', xs, hxl with
  | [c0, c1], _, [y0, y1], _ =>
    have f0 : DataW.trod enc Try.prog W 0 (fun _ => true) true k 9 [c0] = some y0 := by simpa [cells_Tomb_string] using hf 0 _ rfl
    obtain ⟨a, e0, _, w0⟩ := DataW.trod_string Try.underlying9 f0
    simp only [List.cons.injEq, and_true] at e0
    subst e0
    have f1 : DataW.trod enc Try.prog W 0 (fun _ => true) true k 3 [c1] = some y1 := by simpa [cells_Tomb_int] using hf 1 _ rfl
    obtain ⟨b, e1, _, w1⟩ := DataW.trod_int Try.underlying3 f1
    simp only [List.cons.injEq, and_true] at e1
    subst e1
    exact ⟨(a, b), ⟨w0, w1⟩, fun j hj => by
      rcases (by omega : j = 0 ∨ j = 1) with rfl | rfl <;> rfl⟩
theorem open_TombS {base : Nat} {v : Value} {d : DataW H} {p : List MemPlace} (hv : Value.okWide Try.prog W .any base 37 v) (h : DataW.Trod enc Try.prog W 0 (fun _ => true) true 37 v d p) :
    ∃ (A : Option Addr) (cap : Nat) (xs : List ElTomb), v = .slice A xs.length cap ∧ RdE 2 encTomb W W.heap.size A xs ∧ xs.length ≤ cap ∧ cap ≤ maxLen ∧ ∀ x ∈ xs, okwTomb x :=
  open_elems Try.underlying37 cells_Tomb (by omega) el_Tomb hv h
theorem open_Tomb {base : Nat} {v : Value} {d : DataW H} {p : List MemPlace} (hv : Value.okWide Try.prog W .any base 61 v) (h : DataW.Trod enc Try.prog W 0 (fun _ => true) true 61 v d p) :
    ∃ x : ElTomb, v = .agg #[encTomb x 0, encTomb x 1] ∧ okwTomb x := by
  obtain ⟨x, cs, rfl, hs, hx, hc⟩ := open_val Try.underlying61 cells_Tomb el_Tomb hv h
  refine ⟨x, ?_, hx⟩
  congr 1
  apply Array.ext_getElem?
  intro j
  by_cases hj : j < 2
  · rw [hc j hj]
    rcases (by omega : j = 0 ∨ j = 1) with rfl | rfl <;> rfl
  · rw [Array.getElem?_eq_none (by omega), Array.getElem?_eq_none (by simp; omega)]
end
end Go.Proofs.Ytnplpllhochlfaa
