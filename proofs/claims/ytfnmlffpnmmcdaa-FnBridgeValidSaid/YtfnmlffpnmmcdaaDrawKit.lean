/- Kinds of values in a drawn region of a draw: tables, numbers, places, texts. -/
import Derived.Test.YtfnmlffpnmmcdaaLoose
import Derived.Test.YtfnmlffpnmmcdaaReader
namespace Go.Proofs.Ytfnmlffpnmmcdaa
open Go.RowKit
/-- Kept while only block g turns. -/
def Stb (g : Nat) (s : Spec) : Prop := ∀ v w w', World.grownBy w w' (some g) → s v w → s v w'
/-- A table in a block of its own. -/
def tabS (g n : Nat) (cs : Array Value) : Spec := fun v w => ∃ b, v = .slice (some ⟨b, 0, none⟩) n n ∧ g < b ∧ b < w.heap.size ∧ ∀ i, w.cell? ⟨b, i, none⟩ = cs[i]?
/-- A place whose cell holds something of a kind. -/
def ptrS (g : Nat) (q : Value → Prop) : Spec := fun v w => ∃ b i x, v = .pointer (some ⟨b, i, none⟩) ∧ g < b ∧ b < w.heap.size ∧ w.cell? ⟨b, i, none⟩ = some x ∧ q x
/-- A value of a kind. -/
def vS (q : Value → Prop) : Spec := fun v _ => q v
def strP (m : Nat) (v : Value) : Prop := ∃ t : ByteArray, v = .string t ∧ t.size ≤ m
def natP (n : Nat) (v : Value) : Prop := ∃ z : Nat, v = .int .i64 z ∧ z < n
def intP (a b : Int) (v : Value) : Prop := ∃ z : Int, v = .int .i64 z ∧ a ≤ z ∧ z ≤ b
theorem cell_stb {g b i : Nat} {w w' : World} (h : World.grownBy w w' (some g)) (hg : g < b) (hb : b < w.heap.size) : w'.cell? ⟨b, i, none⟩ = w.cell? ⟨b, i, none⟩ :=
  World.cell?_of_block (w := w) (h.block b hb (fun e => by injection e; omega))
theorem tabS_stb (g n : Nat) (cs : Array Value) : Stb g (tabS g n cs) := fun _ _ _ h ⟨b, h1, h2, h3, h4⟩ => ⟨b, h1, h2, Nat.lt_of_lt_of_le h3 h.size, fun i => by rw [cell_stb h h2 h3]; exact h4 i⟩
theorem ptrS_stb (g : Nat) (q : Value → Prop) : Stb g (ptrS g q) := fun _ _ _ h ⟨b, i, x, h1, h2, h3, h4, h5⟩ => ⟨b, i, x, h1, h2, Nat.lt_of_lt_of_le h3 h.size, by rw [cell_stb h h2 h3]; exact h4, h5⟩
theorem vS_stb (g : Nat) (q : Value → Prop) : Stb g (vS q) := fun _ _ _ _ h => h
theorem stb_nil (g : Nat) : ∀ s ∈ ([] : List Spec), Stb g s := fun _ h => by cases h
theorem stb_cons {g : Nat} {s : Spec} {ss : List Spec} (h : Stb g s) (h2 : ∀ s ∈ ss, Stb g s) : ∀ t ∈ s :: ss, Stb g t := fun t ht => by
  rcases List.mem_cons.1 ht with rfl | ht
  · exact h
  · exact h2 t ht
/-- A new table. -/
theorem tabS_new {g n : Nat} {w : World} (h : g < w.heap.size) (cs : Array Value) (e : TypeId) : tabS g n cs (.slice (some ⟨w.heap.size, 0, none⟩) n n) (w.alloc (.cells cs e)) :=
  ⟨w.heap.size, rfl, h, by simp, fun i => by rw [World.cell?_alloc_at _ _ _ _ rfl]⟩
theorem grown_alloc (w : World) (g : Nat) (o : Obj) : World.grownBy w (w.alloc o) (some g) := only_alloc w (some g) (World.grownBy.refl _ _) o
/-- The law of a drawn region of a draw. -/
theorem wp_region_draws {P : Program} (g n K0 : Nat) {L : List Oper} (specs : List Spec) (cs : List Nat) {id : Nat} {Q : Exit → Act → World → Prop} {a : Act} {w : World}
    (hm : P.follows .mixedOrders = true) (hB : looseB (L.take n) (L.drop n) = true) (hds : ((L.take n).all fun o => match o.dst with | some d => decide (d < a.tmps.size) | none => false) = true)
    (hlen : specs.length = (L.take n).length) (hlc : cs.length = (L.take n).length) (hstab : ∀ s ∈ specs, Stb g s) (hG : Rdr w g K0)
    (hsteps : looseSteps (StepOK P (fun w w' => World.grownBy w w' (some g)) (fun k w => Rdr w g k) K0 (K0 + cs.sum) (L.take n) specs a w.drew) (L.take n) specs cs)
    (hend : ∀ w', World.grownBy w w' (some g) → Rdr w' g (K0 + cs.sum) → looseAll w' (fun a' => wpList P L.toArray Q (L.drop n) a' w') (L.take n) specs a) : (Code.region id L.toArray true).wp P Q a w :=
  wp_region_loose (R := fun w w' => World.grownBy w w' (some g)) (G := fun k w => Rdr w g k) n K0 specs cs hm hB hds hlen hlc (fun _ => World.grownBy.refl _ _) (fun _ _ _ h k => World.grownBy.trans h k) hstab hG hsteps
    (fun w' h => hend w' ⟨h.os, h.tape, h.output, h.size, h.block⟩)
end Go.Proofs.Ytfnmlffpnmmcdaa
