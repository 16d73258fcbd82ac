import Derived.Test.YtfnmlffpnmmcdaaHandle
import Derived.Test.YtfnmlffpnmmcdaaOpen
namespace Go.Proofs.Ytfnmlffpnmmcdaa
open Go.ChangeShapes Go.WideShapes Go.ChangeAt Go.RowKit
/-- What is known of one that came in. -/
def okwHandle (x : ElHandle) : Prop := x.1.size ≤ maxLen ∧ x.2.size ≤ maxLen
theorem cells_Handle : Try.prog.cellsOf 33 = 2 := by kernel_rfl
theorem okwszHandle {x : ElHandle} (h : okwHandle x) : x.1.size ≤ maxLen ∧ x.2.size ≤ maxLen := ⟨h.1, h.2⟩
theorem okwVHandle_0 {x : ElHandle} (h : okwHandle x) : x.1.size ≤ maxLen := h.1
theorem okwVHandle_1 {x : ElHandle} (h : okwHandle x) : x.2.size ≤ maxLen := h.2
theorem cells_Handle_string : Try.prog.cellsOf 9 = 1 := by kernel_rfl
section
variable {H : Type} {enc : TypeId × Value → H} {W : World}
theorem el_Handle (m : Nat) (cs : List Value) (y : DataW H × List MemPlace) (h : DataW.trod enc Try.prog W 0 (fun _ => true) true m 33 cs = some y) : ∃ x : ElHandle, okwHandle x ∧ ∀ j, j < 2 → cs[j]? = some (encHandle x j) := by
  obtain ⟨xs, k, _, _, hlen, hxl, hf⟩ := DataW.trod_struct Try.underlying33 h
  have hlen' : cs.length = 2 := hlen.trans cells_Handle
  match cs, hlen', xs, hxl with
  | [c0, c1], _, [y0, y1], _ =>
    have f0 : DataW.trod enc Try.prog W 0 (fun _ => true) true k 9 [c0] = some y0 := by simpa [cells_Handle_string] using hf 0 _ rfl
    obtain ⟨a, e0, _, w0⟩ := DataW.trod_string Try.underlying9 f0
    simp only [List.cons.injEq, and_true] at e0
    subst e0
    have f1 : DataW.trod enc Try.prog W 0 (fun _ => true) true k 9 [c1] = some y1 := by simpa [cells_Handle_string] using hf 1 _ rfl
    obtain ⟨b, e1, _, w1⟩ := DataW.trod_string Try.underlying9 f1
    simp only [List.cons.injEq, and_true] at e1
    subst e1
    exact ⟨(a, b), ⟨w0, w1⟩, fun j hj => by
      rcases (by omega : j = 0 ∨ j = 1) with rfl | rfl <;> rfl⟩
theorem open_HandleS {base : Nat} {v : Value} {d : DataW H} {p : List MemPlace} (hv : Value.okWide Try.prog W .any base 35 v) (h : DataW.Trod enc Try.prog W 0 (fun _ => true) true 35 v d p) :
    ∃ (A : Option Addr) (cap : Nat) (xs : List ElHandle), v = .slice A xs.length cap ∧ RdE 2 encHandle W W.heap.size A xs ∧ xs.length ≤ cap ∧ cap ≤ maxLen ∧ ∀ x ∈ xs, okwHandle x :=
  open_elems Try.underlying35 cells_Handle (by omega) el_Handle hv h
theorem open_Handle {base : Nat} {v : Value} {d : DataW H} {p : List MemPlace} (hv : Value.okWide Try.prog W .any base 33 v) (h : DataW.Trod enc Try.prog W 0 (fun _ => true) true 33 v d p) :
    ∃ x : ElHandle, v = .agg #[encHandle x 0, encHandle x 1] ∧ okwHandle x := by
  obtain ⟨x, cs, rfl, hs, hx, hc⟩ := open_val Try.underlying33 cells_Handle el_Handle hv h
  refine ⟨x, ?_, hx⟩
  congr 1
  apply Array.ext_getElem?
  intro j
  by_cases hj : j < 2
  · rw [hc j hj]
    rcases (by omega : j = 0 ∨ j = 1) with rfl | rfl <;> rfl
  · rw [Array.getElem?_eq_none (by omega), Array.getElem?_eq_none (by simp; omega)]
end
end Go.Proofs.Ytfnmlffpnmmcdaa
