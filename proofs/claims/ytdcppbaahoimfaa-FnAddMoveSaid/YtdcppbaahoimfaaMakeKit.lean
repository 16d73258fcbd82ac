/- Kinds of values in a drawn region whose operations make memory and turn none: places, tables. -/
import Derived.Test.YtdcppbaahoimfaaLoose
import Derived.Test.YtdcppbaahoimfaaRegB
namespace Go.Proofs.Ytdcppbaahoimfaa
open Go.RowKit
/-- Kept while nothing that is there turns. -/
def StbB (s : Spec) : Prop := ∀ v w w', Below w.heap.size w w' → s v w → s v w'
/-- The very value. -/
def isS (x : Value) : Spec := fun v _ => v = x
/-- A table in a block of its own, from N on. -/
def tabB (N n : Nat) (cs : Array Value) : Spec := fun v w => ∃ b, v = .slice (some ⟨b, 0, none⟩) n n ∧ N ≤ b ∧ b < w.heap.size ∧ ∀ i, w.cell? ⟨b, i, none⟩ = cs[i]?
theorem isS_stb (x : Value) : StbB (isS x) := fun _ _ _ _ h => h
theorem tabB_stb (N n : Nat) (cs : Array Value) : StbB (tabB N n cs) := fun _ _ _ h ⟨b, h1, h2, h3, h4⟩ => ⟨b, h1, h2, Nat.lt_of_lt_of_le h3 h.size, fun i => by rw [h.cell (p := ⟨b, i, none⟩) h3]; exact h4 i⟩
theorem tabB_new {N n : Nat} {w : World} (h : N ≤ w.heap.size) (cs : Array Value) (e : TypeId) : tabB N n cs (.slice (some ⟨w.heap.size, 0, none⟩) n n) (w.alloc (.cells cs e)) :=
  ⟨w.heap.size, rfl, h, by simp, fun i => by rw [World.cell?_alloc_at _ _ _ _ rfl]⟩
theorem stbB_nil : ∀ s ∈ ([] : List Spec), StbB s := fun _ h => by cases h
theorem stbB_cons {s : Spec} {ss : List Spec} (h : StbB s) (h2 : ∀ s ∈ ss, StbB s) : ∀ t ∈ s :: ss, StbB t := fun t ht => by
  rcases List.mem_cons.1 ht with rfl | ht
  · exact h
  · exact h2 t ht
theorem below_new (w : World) (o : Obj) : Below w.heap.size w (w.alloc o) := (Below.refl _ _).alloc (Nat.le_refl _) o
/-- The law of a drawn region that makes memory and turns none. -/
theorem wp_region_makes {P : Program} (n : Nat) {L : List Oper} (specs : List Spec) (cs : List Nat) {id : Nat} {Q : Exit → Act → World → Prop} {a : Act} {w : World}
    (hm : P.follows .mixedOrders = true) (hB : looseB (L.take n) (L.drop n) = true) (hds : ((L.take n).all fun o => match o.dst with | some d => decide (d < a.tmps.size) | none => false) = true)
    (hlen : specs.length = (L.take n).length) (hlc : cs.length = (L.take n).length) (hstab : ∀ s ∈ specs, StbB s)
    (hsteps : looseSteps (StepOK P (fun w w' => Below w.heap.size w w') (fun _ _ => True) 0 (0 + cs.sum) (L.take n) specs a w.drew) (L.take n) specs cs)
    (hend : ∀ w', Below w.heap.size w w' → looseAll w' (fun a' => wpList P L.toArray Q (L.drop n) a' w') (L.take n) specs a) : (Code.region id L.toArray true).wp P Q a w :=
  wp_region_loose (R := fun w w' => Below w.heap.size w w') (G := fun _ _ => True) n 0 specs cs hm hB hds hlen hlc (fun _ => Below.refl _ _) (fun _ _ _ h k => Below.app h k) hstab trivial hsteps
    (fun w' h _ => hend w' ⟨h.os, h.tape, h.output, h.size, h.block⟩)
end Go.Proofs.Ytdcppbaahoimfaa
