/- How the arguments of a statement are read: into the words of the walks. -/
import Derived.Test.YtfnmlffpnmmcdaaElems
import Derived.ProofKit
import Derived.OpenShut
import Derived.ShutString
import Derived.ChangeOld
import Derived.Deep.Slices
namespace Go.Proofs.Ytfnmlffpnmmcdaa
open Go.ChangeShapes Go.WideShapes Go.ChangeAt Go.RowKit
theorem own : ownKnob Try.prog.godebug = none := by kernel_rfl
theorem laidOut : laidOutB Try.prog = true := by kernel_rfl
section
variable {H : Type} {enc : TypeId × Value → H} {P : Program} {W : World}
theorem add_none (b off k : Nat) : (⟨b, off, none⟩ : Addr).add k = ⟨b, off + k, none⟩ := by unfold Addr.add; split <;> simp_all
/-- A slice of numbers of a kind: the numbers, each fitting. -/
theorem open_nums {t e : TypeId} {k : IntKind} {base : Nat} {v : Value} {d : DataW H} {p : List MemPlace} (ht : P.underlying t = some (.slice e)) (he : P.underlying e = some (.int k)) (hc : P.cellsOf e = 1)
    (hv : Value.okWide P W .any base t v) (h : DataW.Trod enc P W 0 (fun _ => true) true t v d p) :
    ∃ (A : Option Addr) (cap : Nat) (xs : List Int), v = .slice A xs.length cap ∧ Rd W W.heap.size 1 A xs.length (fun j => .int k (PP.at_ xs j)) ∧ xs.length ≤ cap ∧ cap ≤ maxLen ∧ ∀ n ∈ xs, (Lit.int k n).wf = true := by
  obtain ⟨a, len, cap, rfl⟩ := okWide_slice ht hv
  obtain ⟨fuel, hf⟩ := h
  rcases open_ints ht he hc hf with ⟨hcs, _⟩ | ⟨x, l, c, zs, hcs, _, hl, hm, hz, _, hcell, hwz⟩
  · simp [Value.cells] at hcs
    obtain ⟨rfl, rfl, rfl⟩ := hcs
    exact ⟨none, 0, [], rfl, fun h => absurd h (by simp), Nat.le_refl _, Nat.zero_le _, by simp⟩
  · simp [Value.cells] at hcs
    obtain ⟨rfl, rfl, rfl⟩ := hcs
    have hz' : zs.length = cap := by simpa using hz
    have hlen : (zs.take len).length = len := by simp; omega
    refine ⟨some x, cap, zs.take len, by rw [hlen], ?_, by omega, hm, fun n hn => hwz n (List.mem_of_mem_take hn)⟩
    rw [hlen]
    intro h0
    obtain ⟨b, off, spot⟩ := x
    have hc0 := hcell 0 (by omega)
    have hspot : spot = none := by simpa [Addr.add] using World.cell?_spot hc0
    subst hspot
    have hb := World.block_lt_of_cell? W _ hc0
    rw [add_none] at hb
    refine ⟨b, off, rfl, hb, fun j hj => ?_⟩
    have hj' := hcell j (by omega)
    rw [add_none] at hj'
    rw [hj']
    have : PP.at_ (zs.take len) j = zs.getD j 0 := by
      unfold PP.at_
      rw [List.getElem?_take, if_pos (by omega), List.getD_eq_getElem?_getD]
    show some (Value.int k (zs.getD j 0)) = some (Value.int k (PP.at_ (zs.take len) j))
    rw [this]
/-- A slice of elements of several cells. -/
theorem open_elems {α : Type} [Inhabited α] {sz : Nat} {en : α → Nat → Value} {ok : α → Prop} {t e : TypeId} {base : Nat} {v : Value} {d : DataW H} {p : List MemPlace} (ht : P.underlying t = some (.slice e)) (hC : P.cellsOf e = sz) (hsz : 0 < sz)
    (hel : ∀ (n : Nat) (cs : List Value) (y : DataW H × List MemPlace), DataW.trod enc P W 0 (fun _ => true) true n e cs = some y → ∃ x : α, ok x ∧ ∀ j, j < sz → cs[j]? = some (en x j))
    (hv : Value.okWide P W .any base t v) (h : DataW.Trod enc P W 0 (fun _ => true) true t v d p) :
    ∃ (A : Option Addr) (cap : Nat) (xs : List α), v = .slice A xs.length cap ∧ RdE sz en W W.heap.size A xs ∧ xs.length ≤ cap ∧ cap ≤ maxLen ∧ ∀ x ∈ xs, ok x := by
  obtain ⟨A, len, cap, rfl⟩ := okWide_slice ht hv
  obtain ⟨fuel, hf⟩ := h
  rcases Go.Deep.open_slice ht hf with ⟨hcs, _⟩ | ⟨a, l, c, m, n, D, Pl, hcs, _, hl, hm, hmm, _, hi⟩
  · simp [Value.cells] at hcs
    obtain ⟨rfl, rfl, rfl⟩ := hcs
    exact ⟨none, 0, [], rfl, fun h => absurd h (by simp), Nat.le_refl _, Nat.zero_le _, by simp⟩
  · simp [Value.cells] at hcs
    obtain ⟨rfl, rfl, rfl⟩ := hcs
    have hm' : m = cap := by simpa using hmm
    subst hm'
    have hex : ∀ i, i < m → ∃ x : α, ok x ∧ ∀ j, j < sz → W.cell? (a.add (i * sz + j)) = some (en x j) := by
      intro i him
      obtain ⟨cs', hc, hy⟩ := hi i him
      obtain ⟨x, hx, hxj⟩ := hel _ _ _ hy
      obtain ⟨_, hcl, hat⟩ := World.cells?_some hc
      refine ⟨x, hx, fun j hj => ?_⟩
      rw [hC] at hat
      rw [← hxj j hj, ← hat j hj, Go.Deep.add_add]
    obtain ⟨f, hfx⟩ := Go.Deep.choose_lt hex
    have hlen : ((List.range len).map f).length = len := by simp
    have hgt : ∀ k, k < len → gt ((List.range len).map f) k = f k := fun k hk => by unfold gt; simp [hk]
    refine ⟨some a, m, (List.range len).map f, by rw [hlen], ?_, by rw [hlen]; exact hl, hm, fun x hx => ?_⟩
    · intro h0
      rw [hlen] at h0
      obtain ⟨b, off, spot⟩ := a
      have hc0 := (hfx 0 (by omega)).2 0 hsz
      have hspot : spot = none := by simpa [Addr.add] using World.cell?_spot hc0
      subst hspot
      have hb := World.block_lt_of_cell? W _ hc0
      rw [add_none] at hb
      refine ⟨b, off, rfl, hb, fun j hj => ?_⟩
      rw [hlen] at hj
      have hjk : j / sz < len := (Nat.div_lt_iff_lt_mul hsz).2 hj
      have hj' := (hfx (j / sz) (by omega)).2 (j % sz) (Nat.mod_lt _ hsz)
      rw [add_none, Nat.mul_comm, Nat.div_add_mod] at hj'
      unfold cE
      rw [hj', hgt _ hjk]
    · simp only [List.mem_map, List.mem_range] at hx
      obtain ⟨k, hk, rfl⟩ := hx
      exact (hfx k (by omega)).1
/-- A struct by value. -/
theorem open_val {α : Type} {sz : Nat} {en : α → Nat → Value} {ok : α → Prop} {e : TypeId} {fs : Array Field} {base : Nat} {v : Value} {d : DataW H} {p : List MemPlace} (ht : P.underlying e = some (.struct fs)) (hC : P.cellsOf e = sz)
    (hel : ∀ (n : Nat) (cs : List Value) (y : DataW H × List MemPlace), DataW.trod enc P W 0 (fun _ => true) true n e cs = some y → ∃ x : α, ok x ∧ ∀ j, j < sz → cs[j]? = some (en x j))
    (hv : Value.okWide P W .any base e v) (h : DataW.Trod enc P W 0 (fun _ => true) true e v d p) :
    ∃ (x : α) (cs : Array Value), v = .agg cs ∧ cs.size = sz ∧ ok x ∧ ∀ j, j < sz → cs[j]? = some (en x j) := by
  obtain ⟨cs, rfl, hsz⟩ := okWide_struct ht hv
  obtain ⟨fuel, hf⟩ := h
  obtain ⟨x, hx, hxj⟩ := hel _ _ _ hf
  exact ⟨x, cs, rfl, hsz.trans hC, hx, fun j hj => by have := hxj j hj; simpa [Value.cells] using this⟩
end
end Go.Proofs.Ytfnmlffpnmmcdaa
