import Derived.Test.YthkdofflfaikgaaPost
import Derived.Test.YthkdofflfaikgaaOpen
namespace Go.Proofs.Ythkdofflfaikgaa
open Go.ChangeShapes Go.WideShapes Go.ChangeAt Go.RowKit
/-- What is known of one that came in. -/
def okwPost (x : ElPost) : Prop := (Lit.int .i64 x.1).wf = true ∧ (Lit.int .i64 x.2).wf = true
theorem cells_Post : Try.prog.cellsOf 38 = 2 := by kernel_rfl
theorem cells_Post_int : Try.prog.cellsOf 3 = 1 := by kernel_rfl
section
variable {H : Type} {enc : TypeId × Value → H} {W : World}
theorem el_Post (m : Nat) (cs : List Value) (y : DataW H × List MemPlace) (h : DataW.trod enc Try.prog W 0 (fun _ => true) true m 38 cs = some y) : ∃ x : ElPost, okwPost x ∧ ∀ j, j < 2 → cs[j]? = some (encPost x j) := by
  obtain ⟨xs, k, _, _, hlen, hxl, hf⟩ := DataW.trod_struct Try.underlying38 h
  have hlen' : cs.length = 2 := hlen.trans cells_Post
  match cs, hlen', xs, hxl with
  | [c0, c1], _, [y0, y1], _ =>
    have f0 : DataW.trod enc Try.prog W 0 (fun _ => true) true k 3 [c0] = some y0 := by simpa [cells_Post_int] using hf 0 _ rfl
    obtain ⟨a, e0, _, w0⟩ := DataW.trod_int Try.underlying3 f0
    simp only [List.cons.injEq, and_true] at e0
    subst e0
    have f1 : DataW.trod enc Try.prog W 0 (fun _ => true) true k 3 [c1] = some y1 := by simpa [cells_Post_int] using hf 1 _ rfl
    obtain ⟨b, e1, _, w1⟩ := DataW.trod_int Try.underlying3 f1
    simp only [List.cons.injEq, and_true] at e1
    subst e1
    exact ⟨(a, b), ⟨w0, w1⟩, fun j hj => by
      rcases (by omega : j = 0 ∨ j = 1) with rfl | rfl <;> rfl⟩
theorem open_PostS {base : Nat} {v : Value} {d : DataW H} {p : List MemPlace} (hv : Value.okWide Try.prog W .any base 22 v) (h : DataW.Trod enc Try.prog W 0 (fun _ => true) true 22 v d p) :
    ∃ (A : Option Addr) (cap : Nat) (xs : List ElPost), v = .slice A xs.length cap ∧ RdE 2 encPost W W.heap.size A xs ∧ xs.length ≤ cap ∧ cap ≤ maxLen ∧ ∀ x ∈ xs, okwPost x :=
  open_elems Try.underlying22 cells_Post (by omega) el_Post hv h
theorem open_Post {base : Nat} {v : Value} {d : DataW H} {p : List MemPlace} (hv : Value.okWide Try.prog W .any base 38 v) (h : DataW.Trod enc Try.prog W 0 (fun _ => true) true 38 v d p) :
    ∃ x : ElPost, v = .agg #[encPost x 0, encPost x 1] ∧ okwPost x := by
  obtain ⟨x, cs, rfl, hs, hx, hc⟩ := open_val Try.underlying38 cells_Post el_Post hv h
  refine ⟨x, ?_, hx⟩
  congr 1
  apply Array.ext_getElem?
  intro j
  by_cases hj : j < 2
  · rw [hc j hj]
    rcases (by omega : j = 0 ∨ j = 1) with rfl | rfl <;> rfl
  · rw [Array.getElem?_eq_none (by omega), Array.getElem?_eq_none (by simp; omega)]
end
end Go.Proofs.Ythkdofflfaikgaa
