import Derived.Test.YtfnmlffpnmmcdaaItem
import Derived.Test.YtfnmlffpnmmcdaaOpen
namespace Go.Proofs.Ytfnmlffpnmmcdaa
open Go.ChangeShapes Go.WideShapes Go.ChangeAt Go.RowKit
/-- What is known of one that came in. -/
def okwItem (x : ElItem) : Prop := x.1.size ≤ maxLen ∧ x.2.1.size ≤ maxLen ∧ x.2.2.1.size ≤ maxLen ∧ (Lit.int .i64 x.2.2.2).wf = true
theorem cells_Item : Try.prog.cellsOf 73 = 4 := by kernel_rfl
theorem okwszItem {x : ElItem} (h : okwItem x) : x.1.size ≤ maxLen ∧ x.2.1.size ≤ maxLen ∧ x.2.2.1.size ≤ maxLen := ⟨h.1, h.2.1, h.2.2.1⟩
theorem okwVItem_0 {x : ElItem} (h : okwItem x) : x.1.size ≤ maxLen := h.1
theorem okwVItem_1 {x : ElItem} (h : okwItem x) : x.2.1.size ≤ maxLen := h.2.1
theorem okwVItem_2 {x : ElItem} (h : okwItem x) : x.2.2.1.size ≤ maxLen := h.2.2.1
theorem cells_Item_string : Try.prog.cellsOf 9 = 1 := by kernel_rfl
theorem cells_Item_int : Try.prog.cellsOf 3 = 1 := by kernel_rfl
section
variable {H : Type} {enc : TypeId × Value → H} {W : World}
theorem el_Item (m : Nat) (cs : List Value) (y : DataW H × List MemPlace) (h : DataW.trod enc Try.prog W 0 (fun _ => true) true m 73 cs = some y) : ∃ x : ElItem, okwItem x ∧ ∀ j, j < 4 → cs[j]? = some (encItem x j) := by
  obtain ⟨xs, k, _, _, hlen, hxl, hf⟩ := DataW.trod_struct Try.underlying73 h
  have hlen' : cs.length = 4 := hlen.trans cells_Item
  match cs, hlen', xs, hxl with
  | [c0, c1, c2, c3], _, [y0, y1, y2, y3], _ =>
    have f0 : DataW.trod enc Try.prog W 0 (fun _ => true) true k 9 [c0] = some y0 := by simpa [cells_Item_string] using hf 0 _ rfl
    obtain ⟨a, e0, _, w0⟩ := DataW.trod_string Try.underlying9 f0
    simp only [List.cons.injEq, and_true] at e0
    subst e0
    have f1 : DataW.trod enc Try.prog W 0 (fun _ => true) true k 9 [c1] = some y1 := by simpa [cells_Item_string] using hf 1 _ rfl
    obtain ⟨b, e1, _, w1⟩ := DataW.trod_string Try.underlying9 f1
    simp only [List.cons.injEq, and_true] at e1
    subst e1
    have f2 : DataW.trod enc Try.prog W 0 (fun _ => true) true k 9 [c2] = some y2 := by simpa [cells_Item_string] using hf 2 _ rfl
    obtain ⟨c, e2, _, w2⟩ := DataW.trod_string Try.underlying9 f2
    simp only [List.cons.injEq, and_true] at e2
    subst e2
    have f3 : DataW.trod enc Try.prog W 0 (fun _ => true) true k 3 [c3] = some y3 := by simpa [cells_Item_int] using hf 3 _ rfl
    obtain ⟨d, e3, _, w3⟩ := DataW.trod_int Try.underlying3 f3
    simp only [List.cons.injEq, and_true] at e3
    subst e3
    exact ⟨(a, b, c, d), ⟨w0, w1, w2, w3⟩, fun j hj => by
      rcases (by omega : j = 0 ∨ j = 1 ∨ j = 2 ∨ j = 3) with rfl | rfl | rfl | rfl <;> rfl⟩
theorem open_ItemS {base : Nat} {v : Value} {d : DataW H} {p : List MemPlace} (hv : Value.okWide Try.prog W .any base 34 v) (h : DataW.Trod enc Try.prog W 0 (fun _ => true) true 34 v d p) :
    ∃ (A : Option Addr) (cap : Nat) (xs : List ElItem), v = .slice A xs.length cap ∧ RdE 4 encItem W W.heap.size A xs ∧ xs.length ≤ cap ∧ cap ≤ maxLen ∧ ∀ x ∈ xs, okwItem x :=
  open_elems Try.underlying34 cells_Item (by omega) el_Item hv h
theorem open_Item {base : Nat} {v : Value} {d : DataW H} {p : List MemPlace} (hv : Value.okWide Try.prog W .any base 73 v) (h : DataW.Trod enc Try.prog W 0 (fun _ => true) true 73 v d p) :
    ∃ x : ElItem, v = .agg #[encItem x 0, encItem x 1, encItem x 2, encItem x 3] ∧ okwItem x := by
  obtain ⟨x, cs, rfl, hs, hx, hc⟩ := open_val Try.underlying73 cells_Item el_Item hv h
  refine ⟨x, ?_, hx⟩
  congr 1
  apply Array.ext_getElem?
  intro j
  by_cases hj : j < 4
  · rw [hc j hj]
    rcases (by omega : j = 0 ∨ j = 1 ∨ j = 2 ∨ j = 3) with rfl | rfl | rfl | rfl <;> rfl
  · rw [Array.getElem?_eq_none (by omega), Array.getElem?_eq_none (by simp; omega)]
end
end Go.Proofs.Ytfnmlffpnmmcdaa
