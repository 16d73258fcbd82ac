/- Parts of slices: 's[k:]' and 's[:k]', whatever the capacity. -/
import Derived.Test.YtfnmlffpnmmcdaaElems
namespace Go.Proofs.Ytfnmlffpnmmcdaa
open Go.RowKit
/-- Where 's[k:]' begins. -/
def tlA (A : Option Addr) (cap k sz : Nat) : Option Addr := if cap = k then A else A.map (·.add (k * sz))
theorem tlA_all (A : Option Addr) (k sz : Nat) : tlA A k k sz = A := if_pos rfl
theorem run_from {P : Program} {t e : TypeId} {z : Option Value} {sz bytes : Nat} (ht : P.underlying t = some (.slice e)) (hinfo : (P.info? e).map (fun i => (i.zero, i.size, i.bytes)) = some (z, sz, bytes)) (A : Option Addr) (n cap k : Nat) (hk : k ≤ n) (w : World) :
    (Instr.slice t (.slice A n cap) (some (.int .i64 (k : Int))) none none).run P w = .ok (.slice (tlA A cap k sz) (n - k) (cap - k)) w := by
  have he : P.elem t = e := by simp [Program.elem, ht]
  have ht' : P.underlying t = some (.slice (P.elem t)) := by rw [he]; exact ht
  have hs : ((sizeOf e).run P w) = .ok sz w := by
    cases hi : P.info? e with
    | none => rw [hi] at hinfo; cases hinfo
    | some i =>
      rw [hi] at hinfo
      simp only [Option.map_some, Option.some.injEq, Prod.mk.injEq] at hinfo
      simp [sizeOf, typeInfo, hi, hinfo.2.1]
  rw [run_slice_l w t A n cap ht' .i64 k (by omega) (by omega), he, hs]
  simp [Result.andThen, sliced, tlA]
theorem run_upto {P : Program} {t e : TypeId} {z : Option Value} {sz bytes : Nat} (ht : P.underlying t = some (.slice e)) (hinfo : (P.info? e).map (fun i => (i.zero, i.size, i.bytes)) = some (z, sz, bytes)) (A : Option Addr) (n cap k : Nat) (hk : k ≤ cap) (w : World) :
    (Instr.slice t (.slice A n cap) none (some (.int .i64 (k : Int))) none).run P w = .ok (.slice (tlA A cap 0 sz) k cap) w := by
  have he : P.elem t = e := by simp [Program.elem, ht]
  have ht' : P.underlying t = some (.slice (P.elem t)) := by rw [he]; exact ht
  have hs : ((sizeOf e).run P w) = .ok sz w := by
    cases hi : P.info? e with
    | none => rw [hi] at hinfo; cases hinfo
    | some i =>
      rw [hi] at hinfo
      simp only [Option.map_some, Option.some.injEq, Prod.mk.injEq] at hinfo
      simp [sizeOf, typeInfo, hi, hinfo.2.1]
  rw [run_slice_h w t A n cap ht' .i64 k (by omega) (by omega), he, hs]
  simp [Result.andThen, sliced, tlA]
/-- append at an operation that a '&&' or '||' guards, where the guard lets it run. -/
theorem wpList_appG {P : Program} {w : World} {ops : Array Oper} {rest : List Oper} {o : Oper} {a : Act} {Q : Exit → Act → World → Prop} (hw : Region.wanted o (yielded ops a.tmps) = true) (s x : Operand) (t : TypeId)
    (ho : o.op = .call { callee := .builtin .append, args := #[s, x], argTypes := #[t, t] })
    (base : Nat) (e : TypeId) (z : Value) (sz bytes : Nat) (ht : P.underlying t = some (.slice e)) (hinfo : (P.info? e).map (fun i => (i.zero, i.size, i.bytes)) = some (some z, sz, bytes))
    (hzs : z.cells.size = sz) (hsz : 0 < sz) (A A' : Option Addr) (n cap m c B : Nat) (f g : Nat → Value) (hs : a.eval s = .slice A n cap) (hx : a.eval x = .slice A' m c) (hown : Own w base e sz A n cap f) (hr : Rd w B sz A' m g) (h1 : ∀ j, j < m * sz → (g j).oneCell' = true)
    (h63 : n + m ≤ maxLen) (hbytes : (n + m) * bytes ≤ 140737488355328) (hbase : base ≤ w.heap.size)
    (h : ∀ A1 cap1 w1, Own w1 base e sz A1 (n + m) cap1 (fun j => if j < n * sz then f j else g (j - n * sz)) → w.grownBy w1 (blk A) → wpList P ops Q rest (a.put o.dst (.slice A1 (n + m) cap1)) w1) : wpList P ops Q (o :: rest) a w := by
  refine wpList_step fun K hK => ?_
  rw [if_pos hw]
  obtain ⟨A1, cap1, w1, hrun, h2, h3⟩ := run_append (P := P) (w := w) base t o.type e z sz bytes ht hinfo hzs hsz A A' n cap m c B f g hown hr h1 h63 hbytes hbase
  unfold Oper.wp execOp
  simp only [ho, resolve, invoke, builtin, Sem.run_bind, Sem.run_pure, Result.andThen_ok, List.map_toArray, List.map_cons, List.map_nil, hs, hx, hrun]
  exact hK _ _ (h A1 cap1 w1 h2 h3)
theorem tlA_some {b off : Nat} (cap k sz : Nat) : tlA (some ⟨b, off, none⟩) cap k sz = some ⟨b, if cap = k then off else off + k * sz, none⟩ := by
  unfold tlA
  split
  · rfl
  · simp [Addr.add]
theorem tlA_zero {b off : Nat} (cap sz : Nat) : tlA (some ⟨b, off, none⟩) cap 0 sz = some ⟨b, off, none⟩ := by
  rw [tlA_some]; simp
theorem Shp.tail {A : Option Addr} {n cap k sz : Nat} (h : Shp A n cap) (hk : k ≤ n) : Shp (tlA A cap k sz) (n - k) (cap - k) := by
  rcases h with ⟨rfl, rfl, rfl⟩ | ⟨b, off, rfl, h1, h2⟩
  · obtain rfl : k = 0 := by omega
    exact .inl ⟨by simp [tlA], rfl, rfl⟩
  · rw [tlA_some]
    exact .inr ⟨b, _, rfl, by omega, by omega⟩
section
variable {α : Type} [Inhabited α] {sz : Nat} {enc : α → Nat → Value} {w : World} {B cap : Nat} {A : Option Addr} {xs : List α}
theorem RdE.tail (h : RdE sz enc w B A xs) (hS : Shp A xs.length cap) (k : Nat) (hk : k ≤ xs.length) : RdE sz enc w B (tlA A cap k sz) (xs.drop k) := by
  rcases hS with ⟨rfl, h1, h2⟩ | ⟨b, off, rfl, h1, h2⟩
  · exact fun hp => by simp at hp; omega
  · by_cases hc : cap = k
    · exact fun hp => by simp at hp; omega
    · rw [tlA_some, if_neg hc]
      exact RdE.drop h
theorem RdE.head (h : RdE sz enc w B A xs) (cap k : Nat) : RdE sz enc w B (tlA A cap 0 sz) (xs.take k) := by
  have he : tlA A cap 0 sz = A := by
    cases A with
    | none => unfold tlA; split <;> rfl
    | some a => unfold tlA; split <;> (first | rfl | (simp [Addr.add]))
  rw [he]
  exact RdE.take h k
end
end Go.Proofs.Ytfnmlffpnmmcdaa
