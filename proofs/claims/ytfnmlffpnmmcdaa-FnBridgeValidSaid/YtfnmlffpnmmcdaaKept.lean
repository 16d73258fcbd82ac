import Derived.Test.YtfnmlffpnmmcdaaElems
namespace Go.Proofs.Ytfnmlffpnmmcdaa
open Go.RowKit
/-- One element in a block of its own is kept where another row grows. -/
theorem elem_kept {α : Type} {sz : Nat} {enc : α → Nat → Value} {w w' : World} {row : Option Nat} {y : α} (b : Nat) (hg : w.grownBy w' row) (hb : b < w.heap.size) (hne : row = none ∨ some b ≠ row)
    (hc : ∀ j, j < sz → w.cell? ⟨b, j, none⟩ = some (enc y j)) : Rd w' (b + 1) sz (some ⟨b, 0, none⟩) 1 (enc y) := fun _ =>
  ⟨b, 0, rfl, by omega, fun j hj => by
    rw [Nat.zero_add, hg.cell_far _ hb (by
      rcases hne with h | h
      · subst h; exact fun e => nomatch e
      · exact h)]
    exact hc j (by omega)⟩
end Go.Proofs.Ytfnmlffpnmmcdaa
