/- Parts of the proof, merged: Open TabBr. -/
import Derived.Test.YtfnmlffpnmmcdaaGreatDoorMc1
import Derived.ProofKit
import Derived.OpenShut
import Derived.ShutString
import Derived.ChangeOld
import Derived.Deep.Slices
import Derived.Test.YtfnmlffpnmmcdaaGreatDoorMc5
import Derived.Test.YtfnmlffpnmmcdaaGreatDoorRows
import Derived.Lib.LaidU8
import Derived.LaidMore
import Derived.LaidHandle
import Derived.MakeChecks
namespace Go.Proofs.YtfnmlffpnmmcdaaGreatDoor
set_option maxRecDepth 100000
open Go.ChangeShapes Go.WideShapes Go.ChangeAt Go.RowKit
theorem own : ownKnob Tryz.prog.godebug = none := by kernel_rfl
theorem laidOut : laidOutB Tryz.prog = true := by kernel_rfl
section
variable {H : Type} {enc : TypeId × Value → H} {P : Program} {W : World}
theorem add_none (b off k : Nat) : (⟨b, off, none⟩ : Addr).add k = ⟨b, off + k, none⟩ := by unfold Addr.add; split <;> simp_all
theorem open_elems {α : Type} [Inhabited α] {sz : Nat} {en : α → Nat → Value} {ok : α → Prop} {t e : TypeId} {base : Nat} {v : Value} {d : DataW H} {p : List MemPlace} (ht : P.underlying t = some (.slice e)) (hC : P.cellsOf e = sz) (hsz : 0 < sz)
    (hel : ∀ (n : Nat) (cs : List Value) (y : DataW H × List MemPlace), DataW.trod enc P W 0 (fun _ => true) true n e cs = some y → ∃ x : α, ok x ∧ ∀ j, j < sz → cs[j]? = some (en x j))
    (hv : Value.okWide P W .any base t v) (h : DataW.Trod enc P W 0 (fun _ => true) true t v d p) :
    ∃ (A : Option Addr) (cap : Nat) (xs : List α), v = .slice A xs.length cap ∧ RdE sz en W W.heap.size A xs ∧ xs.length ≤ cap ∧ cap ≤ maxLen ∧ ∀ x ∈ xs, ok x := by
 obtain ⟨A, len, cap, rfl⟩ := okWide_slice ht hv
 obtain ⟨fuel, hf⟩ := h
 rcases Go.Deep.open_slice ht hf with ⟨hcs, _⟩ | ⟨a, l, c, m, n, D, Pl, hcs, _, hl, hm, hmm, _, hi⟩
 ·simp [Value.cells] at hcs
  obtain ⟨rfl, rfl, rfl⟩ := hcs
  exact ⟨none, 0, [], rfl, fun h => absurd h (by simp), Nat.le_refl _, Nat.zero_le _, by simp⟩
 ·simp [Value.cells] at hcs
  obtain ⟨rfl, rfl, rfl⟩ := hcs
  have hm' : m = cap := by simpa using hmm
  subst hm'
  have hex : ∀ i, i < m → ∃ x : α, ok x ∧ ∀ j, j < sz → W.cell? (a.add (i * sz + j)) = some (en x j) := by
   intro i him
   obtain ⟨cs', hc, hy⟩ := hi i him
   obtain ⟨x, hx, hxj⟩ := hel _ _ _ hy
   obtain ⟨_, hcl, hat⟩ := World.cells?_some hc
   refine ⟨x, hx, fun j hj => ?_⟩
   rw [hC] at hat
   rw [← hxj j hj, ← hat j hj, Go.Deep.add_add]
  obtain ⟨f, hfx⟩ := Go.Deep.choose_lt hex
  have hlen : ((List.range len).map f).length = len := by simp
  have hgt : ∀ k, k < len → gt ((List.range len).map f) k = f k := fun k hk => by unfold gt; simp [hk]
  refine ⟨some a, m, (List.range len).map f, by rw [hlen], ?_, by rw [hlen]; exact hl, hm, fun x hx => ?_⟩
  ·intro h0
   rw [hlen] at h0
   obtain ⟨b, off, spot⟩ := a
   have hc0 := (hfx 0 (by omega)).2 0 hsz
   have hspot : spot = none := by simpa [Addr.add] using World.cell?_spot hc0
   subst hspot
   have hb := World.block_lt_of_cell? W _ hc0
   rw [add_none] at hb
   refine ⟨b, off, rfl, hb, fun j hj => ?_⟩
   rw [hlen] at hj
   have hjk : j / sz < len := (Nat.div_lt_iff_lt_mul hsz).2 hj
   have hj' := (hfx (j / sz) (by omega)).2 (j % sz) (Nat.mod_lt _ hsz)
   rw [add_none, Nat.mul_comm, Nat.div_add_mod] at hj'
   unfold cE
   rw [hj', hgt _ hjk]
  ·simp only [List.mem_map, List.mem_range] at hx
   obtain ⟨k, hk, rfl⟩ := hx
   exact (hfx k (by omega)).1
end
end Go.Proofs.YtfnmlffpnmmcdaaGreatDoor
namespace Go.Proofs.YtfnmlffpnmmcdaaGreatDoor
set_option maxRecDepth 100000
open Go.ChangeShapes Go.WideShapes Go.ChangeAt Go.RowKit
theorem at_take {cs : List Value} {k : Nat} {v : Value} (h : (cs.drop k).take 1 = [v]) : cs[k]? = some v := by
 have := congrArg (·[0]?) h
 simpa [List.getElem?_take, List.getElem?_drop] using this
theorem str_of {s : ByteArray} {l : List UInt8} (h : s.data.toList = l) : s = ⟨l.toArray⟩ := by
 apply ByteArray.ext
 show s.data = l.toArray
 rw [← h, Array.toArray_toList]
theorem kw_of_reads {W : World} (h : Lib.VarReads Tryz.prog W "loop.example/feedbridge/impl.kindWords" Rows.laid_loop_example_feedbridge_impl_kindWords) : KwTab W := by
 obtain ⟨g, t, cs, fuel, p, hg, ht, hv, hd⟩ := h
 have hg' : Tryz.prog.globalNamed "loop.example/feedbridge/impl.kindWords" = some 0 := by kernel_rfl
 obtain rfl := Option.some.inj (hg'.symm.trans hg)
 have ht' : (Tryz.prog.globals[0]?).map (·.type) = some 136 := by kernel_rfl
 obtain rfl := Option.some.inj (ht'.symm.trans ht)
 have hcs : Tryz.prog.cellsOf 9 = 1 := by kernel_rfl
 intro k hk
 have h1 := World.var?_cell hg hv k
 rw [h1, ← Array.getElem?_toList]
 obtain ⟨f', d, q, hdk, hk2⟩ := Lib.array_elem Tryz.underlying136 hd k hk
 rw [hcs, Nat.mul_one] at hk2
 obtain ⟨s, hs, hx, _⟩ := DataW.trod_string Tryz.underlying9 hk2
 rw [at_take hs]
 injection hx with hx _
 subst hx
 rcases (by omega : k = 0 ∨ k = 1 ∨ k = 2 ∨ k = 3 ∨ k = 4 ∨ k = 5) with rfl | rfl | rfl | rfl | rfl | rfl
 all_goals
  simp at hdk
  rw [str_of hdk.symm]
  rfl
theorem es_elem {W : World} {cs : List Value} {fuel : Nat} {p : List MemPlace} {c : Int} {l : List UInt8} (h : DataW.trod (fun _ => ()) Tryz.prog W 0 (fun _ => true) false fuel 180 cs = some (.agg [.lit (.int .u8 c), .lit (.string l)], p)) :
    cs[0]? = some (Value.int .u8 c) ∧ cs[1]? = some (Value.string ⟨l.toArray⟩) := by
 obtain ⟨xs, n, rfl, hx, hl, hxl, hall⟩ := DataW.trod_struct Tryz.underlying180 h
 have hxs : xs.map (·.1) = [.lit (.int .u8 c), .lit (.string l)] := by
  have := congrArg Prod.fst hx
  simpa using this.symm
 obtain ⟨b0, b1, rfl⟩ : ∃ b0 b1, xs = [b0, b1] := by
  match xs, hxs with
  | [a, b], _ => exact ⟨a, b, rfl⟩
  | [], h => simp at h
  | [_], h => simp at h
  | _ :: _ :: _ :: _, h => simp at h
 have c5 : Tryz.prog.cellsOf 5 = 1 := by kernel_rfl
 have c9 : Tryz.prog.cellsOf 9 = 1 := by kernel_rfl
 have h0 : DataW.trod (fun _ => ()) Tryz.prog W 0 (fun _ => true) false n 5 ((cs.drop 0).take (Tryz.prog.cellsOf 5)) = some b0 := hall 0 _ rfl
 have h1 : DataW.trod (fun _ => ()) Tryz.prog W 0 (fun _ => true) false n 9 ((cs.drop 1).take (Tryz.prog.cellsOf 9)) = some b1 := hall 1 _ rfl
 rw [c5] at h0
 rw [c9] at h1
 obtain ⟨z, hz, hb0, _⟩ := DataW.trod_int Tryz.underlying5 h0
 obtain ⟨s, hs, hb1, _⟩ := DataW.trod_string Tryz.underlying9 h1
 subst hb0 hb1
 simp at hxs
 obtain ⟨rfl, hs2⟩ := hxs
 exact ⟨at_take hz, by rw [at_take hs, str_of hs2]⟩
theorem es_of_reads {W : World} (h : Lib.VarReads Tryz.prog W "loop.example/feedbridge/impl.escapes" Rows.laid_loop_example_feedbridge_impl_escapes) : EsTab W := by
 obtain ⟨g, t, cs, fuel, p, hg, ht, hv, hd⟩ := h
 have hg' : Tryz.prog.globalNamed "loop.example/feedbridge/impl.escapes" = some 4 := by kernel_rfl
 obtain rfl := Option.some.inj (hg'.symm.trans hg)
 have ht' : (Tryz.prog.globals[4]?).map (·.type) = some 181 := by kernel_rfl
 obtain rfl := Option.some.inj (ht'.symm.trans ht)
 have hcs : Tryz.prog.cellsOf 180 = 2 := by kernel_rfl
 have hel : ∀ i, i < 4 → W.cell? ⟨4, i * 2, none⟩ = some (esC (i * 2)) ∧ W.cell? ⟨4, i * 2 + 1, none⟩ = some (esC (i * 2 + 1)) := by
  intro i hi
  have h1 := World.var?_cell hg hv (i * 2)
  have h2 := World.var?_cell hg hv (i * 2 + 1)
  rw [h1, h2, ← Array.getElem?_toList, ← Array.getElem?_toList]
  obtain ⟨f', d, q, hdk, hk2⟩ := Lib.array_elem Tryz.underlying181 hd i hi
  rw [hcs] at hk2
  rcases (by omega : i = 0 ∨ i = 1 ∨ i = 2 ∨ i = 3) with rfl | rfl | rfl | rfl
  all_goals
   simp at hdk
   subst hdk
   obtain ⟨e1, e2⟩ := es_elem hk2
   rw [List.getElem?_take, if_pos (by omega), List.getElem?_drop] at e1 e2
   exact ⟨e1, e2⟩
 intro j hj
 rcases (by omega : j = 0 ∨ j = 1 ∨ j = 2 ∨ j = 3 ∨ j = 4 ∨ j = 5 ∨ j = 6 ∨ j = 7) with rfl | rfl | rfl | rfl | rfl | rfl | rfl | rfl
 ·exact (hel 0 (by omega)).1
 ·exact (hel 0 (by omega)).2
 ·exact (hel 1 (by omega)).1
 ·exact (hel 1 (by omega)).2
 ·exact (hel 2 (by omega)).1
 ·exact (hel 2 (by omega)).2
 ·exact (hel 3 (by omega)).1
 ·exact (hel 3 (by omega)).2
def laidTabs : List (String × DataW Unit) := Rows.fnExactBridgeLineRow.laid
theorem tabs_of_laid {W : World} (h : laidMetH Tryz.prog laidTabs W) : KwTab W ∧ EsTab W := by
 rw [MakeChecks.laidMetH_plain _ _ _ (by kernel_rfl)] at h
 have e : laidTabs = [("loop.example/feedbridge/impl.kindWords", Rows.laid_loop_example_feedbridge_impl_kindWords), ("loop.example/feedbridge/impl.escapes", Rows.laid_loop_example_feedbridge_impl_escapes)] := by kernel_rfl
 rw [e] at h
 exact ⟨kw_of_reads (Lib.laidMet.reads h (by simp)), es_of_reads (Lib.laidMet.reads h (by simp))⟩
theorem door_met (os : Os) (args : Array Value) : laidMetH Tryz.prog laidTabs ((World.doorLaid Tryz.prog 400 os).forCall (fun _ _ => 0) ⟨#[], args, []⟩).memory :=
 laidMetH_of_parts3 (fuel := 8) (laidMet_of_run' 8 (by kernel_rfl) (by kernel_rfl)) (by kernel_rfl) (by kernel_rfl)
end Go.Proofs.YtfnmlffpnmmcdaaGreatDoor
