import Derived.Test.YtgogkdenolkfjaaReport
import Derived.Test.YtgogkdenolkfjaaOpen
namespace Go.Proofs.Ytgogkdenolkfjaa
open Go.ChangeShapes Go.WideShapes Go.ChangeAt Go.RowKit
/-- What is known of one that came in. -/
def okwReport (x : ElReport) : Prop := x.1.size ≤ maxLen ∧ (Lit.int .i64 x.2.1).wf = true ∧ True
theorem cells_Report : Try.prog.cellsOf 43 = 3 := by kernel_rfl
theorem okwszReport {x : ElReport} (h : okwReport x) : x.1.size ≤ maxLen := h.1
theorem okwVReport_0 {x : ElReport} (h : okwReport x) : x.1.size ≤ maxLen := h.1
theorem cells_Report_string : Try.prog.cellsOf 9 = 1 := by kernel_rfl
theorem cells_Report_int : Try.prog.cellsOf 3 = 1 := by kernel_rfl
theorem cells_Report_bool : Try.prog.cellsOf 4 = 1 := by kernel_rfl
section
variable {H : Type} {enc : TypeId × Value → H} {W : World}
theorem el_Report (m : Nat) (cs : List Value) (y : DataW H × List MemPlace) (h : DataW.trod enc Try.prog W 0 (fun _ => true) true m 43 cs = some y) : ∃ x : ElReport, okwReport x ∧ ∀ j, j < 3 → cs[j]? = some (encReport x j) := by
  obtain ⟨xs, k, _, _, hlen, hxl, hf⟩ := DataW.trod_struct Try.underlying43 h
  have hlen' : cs.length = 3 := hlen.trans cells_Report
  match cs, hlen', xs, hxl with
  | [c0, c1, c2], _, [y0, y1, y2], _ =>
    have f0 : DataW.trod enc Try.prog W 0 (fun _ => true) true k 9 [c0] = some y0 := by simpa [cells_Report_string] using hf 0 _ rfl
    obtain ⟨a, e0, _, w0⟩ := DataW.trod_string Try.underlying9 f0
    simp only [List.cons.injEq, and_true] at e0
    subst e0
    have f1 : DataW.trod enc Try.prog W 0 (fun _ => true) true k 3 [c1] = some y1 := by simpa [cells_Report_int] using hf 1 _ rfl
    obtain ⟨b, e1, _, w1⟩ := DataW.trod_int Try.underlying3 f1
    simp only [List.cons.injEq, and_true] at e1
    subst e1
    have f2 : DataW.trod enc Try.prog W 0 (fun _ => true) true k 4 [c2] = some y2 := by simpa [cells_Report_bool] using hf 2 _ rfl
    obtain ⟨c, e2, _⟩ := DataW.trod_bool Try.underlying4 f2
    have w2 : True := trivial
    simp only [List.cons.injEq, and_true] at e2
    subst e2
    exact ⟨(a, b, c), ⟨w0, w1, w2⟩, fun j hj => by
      rcases (by omega : j = 0 ∨ j = 1 ∨ j = 2) with rfl | rfl | rfl <;> rfl⟩
theorem open_ReportS {base : Nat} {v : Value} {d : DataW H} {p : List MemPlace} (hv : Value.okWide Try.prog W .any base 22 v) (h : DataW.Trod enc Try.prog W 0 (fun _ => true) true 22 v d p) :
    ∃ (A : Option Addr) (cap : Nat) (xs : List ElReport), v = .slice A xs.length cap ∧ RdE 3 encReport W W.heap.size A xs ∧ xs.length ≤ cap ∧ cap ≤ maxLen ∧ ∀ x ∈ xs, okwReport x :=
  open_elems Try.underlying22 cells_Report (by omega) el_Report hv h
theorem open_Report {base : Nat} {v : Value} {d : DataW H} {p : List MemPlace} (hv : Value.okWide Try.prog W .any base 43 v) (h : DataW.Trod enc Try.prog W 0 (fun _ => true) true 43 v d p) :
    ∃ x : ElReport, v = .agg #[encReport x 0, encReport x 1, encReport x 2] ∧ okwReport x := by
  obtain ⟨x, cs, rfl, hs, hx, hc⟩ := open_val Try.underlying43 cells_Report el_Report hv h
  refine ⟨x, ?_, hx⟩
  congr 1
  apply Array.ext_getElem?
  intro j
  by_cases hj : j < 3
  · rw [hc j hj]
    rcases (by omega : j = 0 ∨ j = 1 ∨ j = 2) with rfl | rfl | rfl <;> rfl
  · rw [Array.getElem?_eq_none (by omega), Array.getElem?_eq_none (by simp; omega)]
end
end Go.Proofs.Ytgogkdenolkfjaa
