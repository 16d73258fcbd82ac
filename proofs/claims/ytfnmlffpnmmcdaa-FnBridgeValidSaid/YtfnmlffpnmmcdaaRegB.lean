/- A region that draws its order, whose operations read and whose callees make memory below which nothing turns: one walk in the order of the text. -/
import Derived.Test.YtfnmlffpnmmcdaaOwn
namespace Go.Proofs.Ytfnmlffpnmmcdaa
open Go.RowKit
/-- A world that is as W was below block n. -/
structure Bel (n : Nat) (W : World) where
  u : World
  h : Below n W u
instance (n : Nat) (W : World) : Nonempty (Bel n W) := ⟨⟨W, Below.refl _ _⟩⟩
instance (n : Nat) (W : World) : Inhabited (Bel n W) := ⟨⟨W, Below.refl _ _⟩⟩
theorem Bel.cell {n : Nat} {W : World} {p : Addr} {v : Value} (h : W.cell? p = some v) (hp : p.block < n) (z : Bel n W) : z.u.cell? p = some v := (z.h.cell hp).trans h
theorem Bel.size {n : Nat} {W : World} (z : Bel n W) : W.heap.size ≤ z.u.heap.size := z.h.size
theorem wp_region_bel {P : Program} {id : Nat} {Q : Exit → Act → World → Prop} {a : Act} {w : World} {l : List Oper} (n : Nat) (hm : P.follows .mixedOrders = true) (hB : Region.lexB .any l.toArray = true)
    (h : wpQuiet P l.toArray (fun w' => ∃ z : Bel n w, w' = z.u) (fun a' => ∀ w', (∃ z : Bel n w, w' = z.u) → Q .normal a' w') l a) : (Code.region id l.toArray true).wp P Q a w :=
  wp_region_quiet (C := fun w' => ∃ z : Bel n w, w' = z.u) hm hB ⟨⟨w.drew, (Below.refl n w).drew⟩, rfl⟩ (by simpa using h)
/-- A callee that makes memory, met in a world of the class. -/
theorem Calls.bel {P : Program} {f : FuncId} {args : Array Value} {n : Nat} {W : World} {z : Bel n W} {v : Value} (hn : n ≤ W.heap.size)
    (h : Calls P f args z.u fun e w' => e = .returned v ∧ Below z.u.heap.size z.u w') : Calls P f args z.u fun e w'' => e = .returned v ∧ ∃ z' : Bel n W, w'' = z'.u :=
  h.mono fun _ w' ⟨he, hb⟩ => ⟨he, ⟨w', z.h.trans (hb.mono (Nat.le_trans hn z.h.size))⟩, rfl⟩
/-- A callee that leaves the world alone. -/
theorem Calls.bel_same {P : Program} {f : FuncId} {args : Array Value} {n : Nat} {W : World} {z : Bel n W} {v : Value}
    (h : Calls P f args z.u fun e w' => e = .returned v ∧ w' = z.u) : Calls P f args z.u fun e w'' => e = .returned v ∧ ∃ z' : Bel n W, w'' = z'.u :=
  h.mono fun _ _ ⟨he, hw⟩ => ⟨he, z, hw⟩
/-- On from a base world, block after block. -/
theorem Below.push {a w : World} (h : Below a.heap.size a w) (o : Obj) : Below a.heap.size a (w.alloc o) := h.alloc h.size o
theorem Below.app {a b c : World} (h : Below a.heap.size a b) (k : Below b.heap.size b c) : Below a.heap.size a c := h.trans (k.mono h.size)
theorem Rd.on {v W : World} {B sz n : Nat} {A : Option Addr} {f : Nat → Value} (h : Rd v B sz A n f) (hB : B ≤ v.heap.size) (hb : Below v.heap.size v W) : Rd W B sz A n f := h.below (hb.mono hB)
theorem cellOn {v W : World} {p : Addr} {x : Value} (h : v.cell? p = some x) (hp : p.block < v.heap.size) (hb : Below v.heap.size v W) : W.cell? p = some x := (hb.cell hp).trans h
theorem frozenOn {v W : World} {p : Addr} (h : v.frozen? p = false) (hp : p.block < v.heap.size) (hb : Below v.heap.size v W) : W.frozen? p = false := (hb.frozen hp).trans h
theorem fz_new (w : World) (cs : Array Value) (e : TypeId) (j : Nat) : (w.alloc (.cells cs e)).frozen? ⟨w.heap.size, j, none⟩ = false := by
  unfold World.frozen?
  rw [show (w.alloc (.cells cs e)).heap[(⟨w.heap.size, j, none⟩ : Addr).block]? = some (.cells cs e) from heap_alloc_new _ _]
  simp
theorem capLe_own {w : World} {base e sz n cap : Nat} {A : Option Addr} {f : Nat → Value} (h : Own w base e sz A n cap f) : n ≤ cap := by
  rcases h.shape with ⟨_, h1, h2⟩ | ⟨_, _, _, _, h1, _⟩ <;> omega
end Go.Proofs.Ytfnmlffpnmmcdaa
