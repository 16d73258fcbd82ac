import Derived.Test.YtdcppbaahoimfaaMove
import Derived.Test.YtdcppbaahoimfaaOpenHandle
namespace Go.Proofs.Ytdcppbaahoimfaa
open Go.ChangeShapes Go.WideShapes Go.ChangeAt Go.RowKit
/-- What is known of one that came in. -/
def okwMove (x : ElMove) : Prop := okwHandle x.1 ∧ okwHandle x.2
theorem cells_Move : Try.prog.cellsOf 51 = 4 := by kernel_rfl
theorem okwszMove {x : ElMove} (h : okwMove x) : x.1.1.size ≤ maxLen ∧ x.1.2.size ≤ maxLen ∧ x.2.1.size ≤ maxLen ∧ x.2.2.size ≤ maxLen := ⟨okwVHandle_0 h.1, okwVHandle_1 h.1, okwVHandle_0 h.2, okwVHandle_1 h.2⟩
theorem okwVMove_0 {x : ElMove} (h : okwMove x) : x.1.1.size ≤ maxLen := (okwszMove h).1
theorem okwVMove_1 {x : ElMove} (h : okwMove x) : x.1.2.size ≤ maxLen := (okwszMove h).2.1
theorem okwVMove_2 {x : ElMove} (h : okwMove x) : x.2.1.size ≤ maxLen := (okwszMove h).2.2.1
theorem okwVMove_3 {x : ElMove} (h : okwMove x) : x.2.2.size ≤ maxLen := (okwszMove h).2.2.2
section
variable {H : Type} {enc : TypeId × Value → H} {W : World}
theorem el_Move (m : Nat) (cs : List Value) (y : DataW H × List MemPlace) (h : DataW.trod enc Try.prog W 0 (fun _ => true) true m 51 cs = some y) : ∃ x : ElMove, okwMove x ∧ ∀ j, j < 4 → cs[j]? = some (encMove x j) := by
  obtain ⟨xs, k, _, _, hlen, hxl, hf⟩ := DataW.trod_struct Try.underlying51 h
  have hlen' : cs.length = 4 := hlen.trans cells_Move
  match cs, hlen', xs, hxl with
  | [c0, c1, c2, c3], _, [y0, y1], _ =>
    have f0 : DataW.trod enc Try.prog W 0 (fun _ => true) true k 41 [c0, c1] = some y0 := by simpa [cells_Handle] using hf 0 _ rfl
    have f1 : DataW.trod enc Try.prog W 0 (fun _ => true) true k 41 [c2, c3] = some y1 := by simpa [cells_Handle] using hf 1 _ rfl
    obtain ⟨a, oa, ca⟩ := el_Handle k _ _ f0
    obtain ⟨b, ob, cb⟩ := el_Handle k _ _ f1
    exact ⟨(a, b), ⟨oa, ob⟩, fun j hj => by
      rcases (by omega : j = 0 ∨ j = 1 ∨ j = 2 ∨ j = 3) with rfl | rfl | rfl | rfl
      · exact ca 0 (by omega)
      · exact ca 1 (by omega)
      · exact cb 0 (by omega)
      · exact cb 1 (by omega)⟩
theorem open_MoveS {base : Nat} {v : Value} {d : DataW H} {p : List MemPlace} (hv : Value.okWide Try.prog W .any base 32 v) (h : DataW.Trod enc Try.prog W 0 (fun _ => true) true 32 v d p) :
    ∃ (A : Option Addr) (cap : Nat) (xs : List ElMove), v = .slice A xs.length cap ∧ RdE 4 encMove W W.heap.size A xs ∧ xs.length ≤ cap ∧ cap ≤ maxLen ∧ ∀ x ∈ xs, okwMove x :=
  open_elems Try.underlying32 cells_Move (by omega) el_Move hv h
theorem open_Move {base : Nat} {v : Value} {d : DataW H} {p : List MemPlace} (hv : Value.okWide Try.prog W .any base 51 v) (h : DataW.Trod enc Try.prog W 0 (fun _ => true) true 51 v d p) :
    ∃ x : ElMove, v = .agg #[encMove x 0, encMove x 1, encMove x 2, encMove x 3] ∧ okwMove x := by
  obtain ⟨x, cs, rfl, hs, hx, hc⟩ := open_val Try.underlying51 cells_Move el_Move hv h
  refine ⟨x, ?_, hx⟩
  congr 1
  apply Array.ext_getElem?
  intro j
  by_cases hj : j < 4
  · rw [hc j hj]
    rcases (by omega : j = 0 ∨ j = 1 ∨ j = 2 ∨ j = 3) with rfl | rfl | rfl | rfl <;> rfl
  · rw [Array.getElem?_eq_none (by omega), Array.getElem?_eq_none (by simp; omega)]
end
end Go.Proofs.Ytdcppbaahoimfaa
