/- How a bridge that came in is read. -/
import Derived.Test.YtfnmlffpnmmcdaaOpenItem
import Derived.Test.YtfnmlffpnmmcdaaOpenHandle
namespace Go.Proofs.Ytfnmlffpnmmcdaa
open Go.ChangeShapes Go.WideShapes Go.ChangeAt Go.RowKit
section
variable {H : Type} {enc : TypeId × Value → H} {W : World}
/-- A slice of elements, by its cell. -/
theorem open_raw {P : Program} {α : Type} [Inhabited α] {sz : Nat} {en : α → Nat → Value} {ok : α → Prop} {t e : TypeId} {fuel : Nat} {cs : List Value} {y : DataW H × List MemPlace} (ht : P.underlying t = some (.slice e)) (hC : P.cellsOf e = sz) (hsz : 0 < sz)
    (hel : ∀ (n : Nat) (cs : List Value) (y : DataW H × List MemPlace), DataW.trod enc P W 0 (fun _ => true) true n e cs = some y → ∃ x : α, ok x ∧ ∀ j, j < sz → cs[j]? = some (en x j))
    (hf : DataW.trod enc P W 0 (fun _ => true) true fuel t cs = some y) :
    ∃ (A : Option Addr) (cap : Nat) (xs : List α), cs = [.slice A xs.length cap] ∧ RdE sz en W W.heap.size A xs ∧ xs.length ≤ cap ∧ cap ≤ maxLen ∧ ∀ x ∈ xs, ok x := by
  obtain ⟨d, p⟩ := y
  rcases Go.Deep.open_slice ht hf with ⟨hcs, _⟩ | ⟨a, len, cap, m, n, D, Pl, hcs, _, hl, hm, hmm, _, hi⟩
  · exact ⟨none, 0, [], hcs, fun h => absurd h (by simp), Nat.le_refl _, Nat.zero_le _, by simp⟩
  · have hm' : m = cap := by simpa using hmm
    subst hm'
    have hex : ∀ i, i < m → ∃ x : α, ok x ∧ ∀ j, j < sz → W.cell? (a.add (i * sz + j)) = some (en x j) := by
      intro i him
      obtain ⟨cs', hc, hy⟩ := hi i him
      obtain ⟨x, hx, hxj⟩ := hel _ _ _ hy
      obtain ⟨_, hcl, hat⟩ := World.cells?_some hc
      refine ⟨x, hx, fun j hj => ?_⟩
      rw [hC] at hat
      rw [← hxj j hj, ← hat j hj, Go.Deep.add_add]
    obtain ⟨f, hfx⟩ := Go.Deep.choose_lt hex
    have hlen : ((List.range len).map f).length = len := by simp
    have hgt : ∀ k, k < len → gt ((List.range len).map f) k = f k := fun k hk => by unfold gt; simp [hk]
    refine ⟨some a, m, (List.range len).map f, by rw [hlen]; exact hcs, ?_, by rw [hlen]; exact hl, hm, fun x hx => ?_⟩
    · intro h0
      rw [hlen] at h0
      obtain ⟨b, off, spot⟩ := a
      have hc0 := (hfx 0 (by omega)).2 0 hsz
      have hspot : spot = none := by simpa [Addr.add] using World.cell?_spot hc0
      subst hspot
      have hb := World.block_lt_of_cell? W _ hc0
      rw [add_none] at hb
      refine ⟨b, off, rfl, hb, fun j hj => ?_⟩
      rw [hlen] at hj
      have hjk : j / sz < len := (Nat.div_lt_iff_lt_mul hsz).2 hj
      have hj' := (hfx (j / sz) (by omega)).2 (j % sz) (Nat.mod_lt _ hsz)
      rw [add_none, Nat.mul_comm, Nat.div_add_mod] at hj'
      unfold cE
      rw [hj', hgt _ hjk]
    · simp only [List.mem_map, List.mem_range] at hx
      obtain ⟨k, hk, rfl⟩ := hx
      exact (hfx k (by omega)).1
theorem cells_Bridge : Try.prog.cellsOf 37 = 5 := by kernel_rfl
theorem cells_Bridge_items : Try.prog.cellsOf 34 = 1 := by kernel_rfl
theorem cells_Bridge_fans : Try.prog.cellsOf 35 = 1 := by kernel_rfl
theorem open_Bridge {base : Nat} {v : Value} {d : DataW H} {p : List MemPlace} (hv : Value.okWide Try.prog W .any base 37 v) (h : DataW.Trod enc Try.prog W 0 (fun _ => true) true 37 v d p) :
    ∃ (who : ElHandle) (I : Option Addr) (ci : Nat) (is : List ElItem) (F : Option Addr) (cf : Nat) (fs : List ElHandle) (nx : Int), v = .agg #[.string who.1, .string who.2, .slice I is.length ci, .slice F fs.length cf, .int .i64 nx] ∧ okwHandle who ∧
      (RdE 4 encItem W W.heap.size I is ∧ is.length ≤ ci ∧ ci ≤ maxLen ∧ ∀ x ∈ is, okwItem x) ∧ (RdE 2 encHandle W W.heap.size F fs ∧ fs.length ≤ cf ∧ cf ≤ maxLen ∧ ∀ x ∈ fs, okwHandle x) ∧ (Lit.int .i64 nx).wf = true := by
  obtain ⟨cs, rfl, hsz⟩ := okWide_struct Try.underlying37 hv
  obtain ⟨fuel, hf⟩ := h
  obtain ⟨xs, k, _, _, hlen, hxl, hf⟩ := DataW.trod_struct Try.underlying37 hf
  obtain ⟨cs⟩ := cs
  have hlen' : cs.length = 5 := hlen.trans cells_Bridge
  match cs, hlen', xs, hxl with
  | [c0, c1, c2, c3, c4], _, [y0, y1, y2, y3], _ =>
    have f0 : DataW.trod enc Try.prog W 0 (fun _ => true) true k 33 [c0, c1] = some y0 := by simpa [Value.cells, cells_Handle] using hf 0 _ rfl
    have f1 : DataW.trod enc Try.prog W 0 (fun _ => true) true k 34 [c2] = some y1 := by simpa [Value.cells, cells_Handle, cells_Bridge_items] using hf 1 _ rfl
    have f2 : DataW.trod enc Try.prog W 0 (fun _ => true) true k 35 [c3] = some y2 := by simpa [Value.cells, cells_Handle, cells_Bridge_items, cells_Bridge_fans] using hf 2 _ rfl
    have f3 : DataW.trod enc Try.prog W 0 (fun _ => true) true k 3 [c4] = some y3 := by simpa [Value.cells, cells_Handle, cells_Bridge_items, cells_Bridge_fans, cells_Item_int] using hf 3 _ rfl
    obtain ⟨who, ow, cw⟩ := el_Handle k _ _ f0
    have e0 : c0 = encHandle who 0 := by simpa using cw 0 (by omega)
    have e1 : c1 = encHandle who 1 := by simpa using cw 1 (by omega)
    obtain ⟨I, ci, is, e2, rI, lI, mI, wI⟩ := open_raw Try.underlying34 cells_Item (by omega) el_Item f1
    obtain ⟨F, cf, fs, e3, rF, lF, mF, wF⟩ := open_raw Try.underlying35 cells_Handle (by omega) el_Handle f2
    obtain ⟨nx, e4, _, w4⟩ := DataW.trod_int Try.underlying3 f3
    simp only [List.cons.injEq, and_true] at e2 e3 e4
    subst e0; subst e1; subst e2; subst e3; subst e4
    exact ⟨who, I, ci, is, F, cf, fs, nx, rfl, ow, ⟨rI, lI, mI, wI⟩, ⟨rF, lF, mF, wF⟩, w4⟩
end
end Go.Proofs.Ytfnmlffpnmmcdaa
