/- Rows of the call's own: what a slice in new memory holds, cell by cell; append onto it; a cell of it written. -/
import Derived.Test.YtfnmlffpnmmcdaaBase
namespace Go.Proofs.Ytfnmlffpnmmcdaa
open Go.RowKit

/-- The slice (A, n, cap) of elements of type e, of sz cells each, lies in a block of its own from base on (or is nil) and holds f. -/
def Own (w : World) (base e sz : Nat) (A : Option Addr) (n cap : Nat) (f : Nat → Value) : Prop :=
  w.ownsRow base e sz (.slice A n cap) n ((List.range (n * sz)).map f)
/-- Its block. -/
def blk (A : Option Addr) : Option Nat := A.map (·.block)
theorem ownBlock_slice (A : Option Addr) (n cap : Nat) : (Value.slice A n cap).ownBlock = blk A := by cases A <;> rfl
theorem range_map_get (f : Nat → Value) {t j : Nat} (hj : j < t) : ((List.range t).map f)[j]? = some (f j) := by simp [hj]
theorem range_map_congr {f g : Nat → Value} {t : Nat} (h : ∀ j, j < t → f j = g j) : (List.range t).map f = (List.range t).map g :=
  List.map_congr_left fun j hj => h j (List.mem_range.1 hj)

section
variable {w w' : World} {base base' e sz n cap : Nat} {A : Option Addr} {f g : Nat → Value}
theorem Own.nil (w : World) (base e sz : Nat) (f : Nat → Value) : Own w base e sz none 0 0 f := by
  unfold Own; rw [Nat.zero_mul]; exact World.ownsRow_nil w base e sz
theorem Own.congr (h : Own w base e sz A n cap f) (hfg : ∀ j, j < n * sz → f j = g j) : Own w base e sz A n cap g := by
  unfold Own at h ⊢; rw [← range_map_congr hfg]; exact h
theorem Own.shape (h : Own w base e sz A n cap f) : (A = none ∧ n = 0 ∧ cap = 0) ∨ ∃ b, A = some ⟨b, 0, none⟩ ∧ base ≤ b ∧ b < w.heap.size ∧ n ≤ cap ∧ cap ≤ maxLen := by
  have hlt := World.ownsRow.lt h
  rcases h.2 with ⟨hv, _⟩ | ⟨b, c, cur, hv, hb, hg, hn, hc, _⟩
  · injection hv with h1 h2 h3; exact .inl ⟨h1, h2, h3⟩
  · injection hv with h1 h2 h3
    subst h1; subst h3
    have := hlt b rfl
    exact .inr ⟨b, rfl, hb, this.2, hn, hc⟩
/-- What a slice value looks like. -/
def Shp (A : Option Addr) (n cap : Nat) : Prop := (A = none ∧ n = 0 ∧ cap = 0) ∨ ∃ b off, A = some ⟨b, off, none⟩ ∧ n ≤ cap ∧ cap ≤ maxLen
theorem Own.shp (h : Own w base e sz A n cap f) : Shp A n cap := by
  rcases h.shape with h1 | ⟨b, h1, _, _, h2, h3⟩
  · exact .inl h1
  · exact .inr ⟨b, 0, h1, h2, h3⟩
theorem Own.lt (h : Own w base e sz A n cap f) {b : Nat} (hb : blk A = some b) : base ≤ b ∧ b < w.heap.size := by
  rcases h.shape with ⟨rfl, _⟩ | ⟨b', rfl, h1, h2, _⟩
  · cases hb
  · simp [blk] at hb; omega
theorem Own.cell (h : Own w base e sz A n cap f) {b : Nat} (hA : A = some ⟨b, 0, none⟩) {j : Nat} (hj : j < n * sz) : w.cell? ⟨b, j, none⟩ = some (f j) := by
  subst hA
  rw [World.ownsRow.cellAt h j hj, range_map_get f hj]
theorem Own.frozen (h : Own w base e sz A n cap f) {b : Nat} (hA : A = some ⟨b, 0, none⟩) (j : Nat) : w.frozen? ⟨b, j, none⟩ = false := by
  subst hA
  exact World.ownsRow.frozenAt h j
theorem Own.rd (h : Own w base e sz A n cap f) : Rd w w.heap.size sz A n f := fun hn => by
  rcases h.shape with ⟨_, h0, _⟩ | ⟨b, hA, _, hb, _⟩
  · omega
  · exact ⟨b, 0, hA, hb, fun j hj => by rw [Nat.zero_add]; exact h.cell hA hj⟩
theorem Own.kept (h : Own w base e sz A n cap f) {row : Option Nat} (hg : w.grownBy w' row) (hne : blk A = none ∨ blk A ≠ row) : Own w' base e sz A n cap f :=
  World.ownsRow.kept h hg (by rw [ownBlock_slice]; exact hne)
theorem Own.more (h : Own w base e sz A n cap f) (hb : base' ≤ base) : Own w base' e sz A n cap f := by
  refine ⟨h.1, ?_⟩
  rcases h.2 with h2 | ⟨g, c, cur, hv, hg, r⟩
  · exact .inl h2
  · exact .inr ⟨g, c, cur, hv, by omega, r⟩
theorem Own.below (h : Own w base e sz A n cap f) (hb : Below w.heap.size w w') : Own w' base e sz A n cap f :=
  h.kept (row := none) ⟨hb.os, hb.tape, hb.output, hb.size, fun k hk _ => hb.block k hk⟩ (by cases A <;> simp [blk])
theorem Own.belowB (h : Own w base e sz A n cap f) {B : Nat} (hb : Below B w w') (hlt : ∀ b, blk A = some b → b < B) : Own w' base e sz A n cap f := by
  refine ⟨h.1, ?_⟩
  rcases h.2 with h2 | ⟨g, c, cur, hv, hg, hh, r⟩
  · exact .inl h2
  · injection hv with h1
    subst h1
    exact .inr ⟨g, c, cur, by rw [‹cap = c›], hg, by rw [hb.block g (hlt g rfl)]; exact hh, r⟩
theorem Own.drewN (h : Own w base e sz A n cap f) (k : Nat) : Own (w.drewN k) base e sz A n cap f := h
theorem Own.new (w : World) (e sz n : Nat) (f : Nat → Value) (hn : n ≤ maxLen) : Own (w.alloc (.cells (rowC f (n * sz)) e)) w.heap.size e sz (some ⟨w.heap.size, 0, none⟩) n n f := by
  have := World.ownsRow_lit (e := e) (size := sz) w (rowC f (n * sz)) n (Nat.le_refl _) hn (rowC_size _ _)
  unfold Own
  rwa [show (rowC f (n * sz)).toList = (List.range (n * sz)).map f by simp [rowC, Array.toList_range]] at this
theorem Own.lit (w : World) (e sz n : Nat) (cs : Array Value) (f : Nat → Value) (hn : n ≤ maxLen) (hcs : cs.toList = (List.range (n * sz)).map f) : Own (w.alloc (.cells cs e)) w.heap.size e sz (some ⟨w.heap.size, 0, none⟩) n n f := by
  have hs : cs.size = n * sz := by rw [← Array.length_toList, hcs]; simp
  have := World.ownsRow_lit (e := e) (size := sz) w cs n (Nat.le_refl _) hn hs
  unfold Own
  rwa [hcs] at this
/-- A row made with room, of no elements yet. -/
theorem Own.cap0 (w : World) (e sz c base : Nat) (cs : Array Value) (f : Nat → Value) (hb : base ≤ w.heap.size) (hc : c ≤ maxLen) (hs : cs.size = c * sz) : Own (w.alloc (.cells cs e)) base e sz (some ⟨w.heap.size, 0, none⟩) 0 c f := by
  have := World.ownsRow_made (e := e) (size := sz) w cs c hb hc hs
  unfold Own
  simpa using this
theorem Own.set (h : Own w base e sz A n cap f) {b j : Nat} (hA : A = some ⟨b, 0, none⟩) (u : Value) :
    Own (w.setCell ⟨b, j, none⟩ u) base e sz A n cap (fun i => if i = j then u else f i) ∧ w.grownBy (w.setCell ⟨b, j, none⟩ u) (blk A) := by
  subst hA
  obtain ⟨h1, h2⟩ := World.ownsRow.stored h j u
  refine ⟨?_, h2⟩
  unfold Own
  have e : ((List.range (n * sz)).map f).set j u = (List.range (n * sz)).map (fun i => if i = j then u else f i) := by
    apply List.ext_getElem
    · simp
    · intro i h1 h2
      rw [List.getElem_set]
      by_cases hij : j = i
      · subst hij; simp
      · simp [hij, Ne.symm hij]
  rwa [e] at h1
end
theorem blk_ne {A A' : Option Addr} {B : Nat} (h : ∀ b, blk A = some b → b < B) (h' : ∀ b, blk A' = some b → B ≤ b) : blk A = none ∨ blk A ≠ blk A' := by
  cases hA : blk A with
  | none => exact .inl rfl
  | some b =>
    refine .inr fun e => ?_
    have := h b hA
    have := h' b e.symm
    omega
theorem blk_ne' {A A' : Option Addr} {B : Nat} (h : ∀ b, blk A = some b → b < B) (h' : ∀ b, blk A' = some b → B ≤ b) : blk A' = none ∨ blk A' ≠ blk A := by
  cases hA : blk A' with
  | none => exact .inl rfl
  | some b =>
    refine .inr fun e => ?_
    have := h b e.symm
    have := h' b hA
    omega
theorem grown_below {w w' : World} {A : Option Addr} {B : Nat} (hg : w.grownBy w' (blk A)) (h : ∀ b, blk A = some b → B ≤ b) (hB : B ≤ w.heap.size) : Below B w w' :=
  (Below.refl B w).grown hg hB h

section
variable {P : Program} {w : World}
theorem run_append_none (base : Nat) (t ty e : TypeId) (i : TypeInfo) (size : Nat) (ht : P.underlying t = some (.slice e)) (hi : P.info? e = some i)
    (v : Value) (n : Nat) (xs : List Value) (hown : w.ownsRow base e size v n xs) (c : Nat) : (Builtin.append_ #[t, t] ty #[v, .slice none 0 c]).run P w = .ok v w := by
  rcases hown.2 with ⟨rfl, rfl⟩ | ⟨g, cap, cur, rfl, _, _, hnc, _⟩
  · simp [Builtin.append_, run_underlying ht, sizeOf, typeInfo, hi, Builtin.lenOf, Builtin.firstCells]
  · simp [Builtin.append_, run_underlying ht, sizeOf, typeInfo, hi, Builtin.lenOf, Builtin.firstCells, hnc, storeCells]
/-- append onto a row of the call's own, from whatever slice. -/
theorem run_append (base : Nat) (t ty e : TypeId) (z : Value) (sz bytes : Nat) (ht : P.underlying t = some (.slice e)) (hinfo : (P.info? e).map (fun i => (i.zero, i.size, i.bytes)) = some (some z, sz, bytes))
    (hzs : z.cells.size = sz) (hsz : 0 < sz) (A A' : Option Addr) (n cap m c B : Nat) (f g : Nat → Value) (hown : Own w base e sz A n cap f) (hr : Rd w B sz A' m g) (h1 : ∀ j, j < m * sz → (g j).oneCell' = true)
    (h63 : n + m ≤ maxLen) (hbytes : (n + m) * bytes ≤ 140737488355328) (hbase : base ≤ w.heap.size) :
    ∃ A1 cap1 w1, (Builtin.append_ #[t, t] ty #[.slice A n cap, .slice A' m c]).run P w = .ok (.slice A1 (n + m) cap1) w1 ∧ Own w1 base e sz A1 (n + m) cap1 (fun j => if j < n * sz then f j else g (j - n * sz)) ∧ w.grownBy w1 (blk A) := by
  obtain ⟨i, hi, hz, hs, hb⟩ := info_parts hinfo
  have hcat : (List.range (n * sz)).map f ++ (List.range (m * sz)).map g = (List.range ((n + m) * sz)).map (fun j => if j < n * sz then f j else g (j - n * sz)) := by
    apply List.ext_getElem
    · simp [Nat.add_mul]
    · intro j h1 h2
      simp only [List.length_append, List.length_map, List.length_range] at h1
      by_cases hj : j < n * sz
      · rw [List.getElem_append_left (by simpa using hj)]; simp [hj]
      · rw [List.getElem_append_right (by simp; omega)]; simp [hj]
  by_cases hm : m = 0
  · subst hm
    cases A' with
    | none =>
      refine ⟨A, cap, w, run_append_none base t ty e i sz ht hi _ n _ hown c, ?_, World.grownBy.refl w _⟩
      exact Own.congr (n := n) hown fun j hj => by rw [if_pos (show j < n * sz from hj)]
    | some ad =>
      obtain ⟨v', w', hrun, h2, h3, _⟩ := run_append_own (P := P) w base t ty e i z sz bytes ht hi hz hs hb hzs hsz _ n _ hown ad 0 c [] (by simp) (by simp) (by simp) h63 hbytes hbase
      have hshape : ∃ A1 cap1, v' = .slice A1 (n + 0) cap1 := by
        rcases h2.2 with ⟨rfl, h0⟩ | ⟨_, _, _, rfl, _⟩
        · exact ⟨none, 0, by rw [h0]⟩
        · exact ⟨_, _, rfl⟩
      obtain ⟨A1, cap1, rfl⟩ := hshape
      rw [ownBlock_slice] at h3
      refine ⟨A1, cap1, w', hrun, ?_, h3⟩
      unfold Own
      rw [← hcat]
      simpa using h2
  · obtain ⟨b, off, rfl, hbB, hc⟩ := hr (by omega)
    obtain ⟨v', w', hrun, h2, h3, _⟩ := run_append_own (P := P) w base t ty e i z sz bytes ht hi hz hs hb hzs hsz _ n _ hown ⟨b, off, none⟩ m c ((List.range (m * sz)).map g) (by simp)
      (fun j u hu => by
        have hj : j < m * sz := by
          have := (List.getElem?_eq_some_iff.1 hu).1
          simpa using this
        rw [range_map_get g hj] at hu
        have e : (⟨b, off, none⟩ : Addr).add j = ⟨b, off + j, none⟩ := by unfold Addr.add; split <;> simp_all
        rw [e, hc j hj, hu])
      (fun u hu => by
        simp only [List.mem_map, List.mem_range] at hu
        obtain ⟨j, hj, rfl⟩ := hu
        exact h1 j hj) h63 hbytes hbase
    have hshape : ∃ A1 cap1, v' = .slice A1 (n + m) cap1 := by
      rcases h2.2 with ⟨rfl, h0⟩ | ⟨_, _, _, rfl, _⟩
      · omega
      · exact ⟨_, _, rfl⟩
    obtain ⟨A1, cap1, rfl⟩ := hshape
    rw [ownBlock_slice] at h3
    refine ⟨A1, cap1, w', hrun, ?_, h3⟩
    unfold Own
    rw [← hcat]
    exact h2

theorem wpList_app {ops : Array Oper} {rest : List Oper} {o : Oper} {a : Act} {Q : Exit → Act → World → Prop} (hgd : o.guard = none) (s x : Operand) (t : TypeId)
    (ho : o.op = .call { callee := .builtin .append, args := #[s, x], argTypes := #[t, t] })
    (base : Nat) (e : TypeId) (z : Value) (sz bytes : Nat) (ht : P.underlying t = some (.slice e)) (hinfo : (P.info? e).map (fun i => (i.zero, i.size, i.bytes)) = some (some z, sz, bytes))
    (hzs : z.cells.size = sz) (hsz : 0 < sz) (A A' : Option Addr) (n cap m c B : Nat) (f g : Nat → Value) (hs : a.eval s = .slice A n cap) (hx : a.eval x = .slice A' m c) (hown : Own w base e sz A n cap f) (hr : Rd w B sz A' m g) (h1 : ∀ j, j < m * sz → (g j).oneCell' = true)
    (h63 : n + m ≤ maxLen) (hbytes : (n + m) * bytes ≤ 140737488355328) (hbase : base ≤ w.heap.size)
    (h : ∀ A1 cap1 w1, Own w1 base e sz A1 (n + m) cap1 (fun j => if j < n * sz then f j else g (j - n * sz)) → w.grownBy w1 (blk A) → wpList P ops Q rest (a.put o.dst (.slice A1 (n + m) cap1)) w1) : wpList P ops Q (o :: rest) a w := by
  refine wpList_plain hgd fun K hK => ?_
  obtain ⟨A1, cap1, w1, hrun, h2, h3⟩ := run_append (P := P) (w := w) base t o.type e z sz bytes ht hinfo hzs hsz A A' n cap m c B f g hown hr h1 h63 hbytes hbase
  unfold Oper.wp execOp
  simp only [ho, resolve, invoke, builtin, Sem.run_bind, Sem.run_pure, Result.andThen_ok, List.map_toArray, List.map_cons, List.map_nil, hs, hx, hrun]
  exact hK _ _ (h A1 cap1 w1 h2 h3)
end
theorem step_app {P : Program} {w : World} {ops : Array Oper} {o : Oper} {a : Act} {K : Act → World → Prop} {Q : Exit → Act → World → Prop} {E : Prop} (hgd : o.guard = none) (s x : Operand) (t : TypeId)
    (ho : o.op = .call { callee := .builtin .append, args := #[s, x], argTypes := #[t, t] })
    (base : Nat) (e : TypeId) (z : Value) (sz bytes : Nat) (ht : P.underlying t = some (.slice e)) (hinfo : (P.info? e).map (fun i => (i.zero, i.size, i.bytes)) = some (some z, sz, bytes))
    (hzs : z.cells.size = sz) (hsz : 0 < sz) (A A' : Option Addr) (n cap m c B : Nat) (f g : Nat → Value) (hs : a.eval s = .slice A n cap) (hx : a.eval x = .slice A' m c) (hown : Own w base e sz A n cap f) (hr : Rd w B sz A' m g) (h1 : ∀ j, j < m * sz → (g j).oneCell' = true)
    (h63 : n + m ≤ maxLen) (hbytes : (n + m) * bytes ≤ 140737488355328) (hbase : base ≤ w.heap.size)
    (h : ∀ A1 cap1 w1, Own w1 base e sz A1 (n + m) cap1 (fun j => if j < n * sz then f j else g (j - n * sz)) → w.grownBy w1 (blk A) → K (a.put o.dst (.slice A1 (n + m) cap1)) w1) :
    if Region.wanted o (yielded ops a.tmps) = true then Oper.wp P o a w K Q else E := by
  have hw : Region.wanted o (yielded ops a.tmps) = true := by simp [Region.wanted, hgd]
  rw [if_pos hw]
  obtain ⟨A1, cap1, w1, hrun, h2, h3⟩ := run_append (P := P) (w := w) base t o.type e z sz bytes ht hinfo hzs hsz A A' n cap m c B f g hown hr h1 h63 hbytes hbase
  unfold Oper.wp execOp
  simp only [ho, resolve, invoke, builtin, Sem.run_bind, Sem.run_pure, Result.andThen_ok, List.map_toArray, List.map_cons, List.map_nil, hs, hx, hrun]
  exact h A1 cap1 w1 h2 h3
theorem rd_one (w : World) (v : Value) (t : TypeId) : Rd (w.alloc (.cells #[v] t)) (w.heap.size + 1) 1 (some ⟨w.heap.size, 0, none⟩) 1 (fun _ => v) := fun _ =>
  ⟨w.heap.size, 0, rfl, by omega, fun j hj => by
    obtain rfl : j = 0 := by omega
    rw [World.cell?_alloc_at _ _ _ _ rfl]; rfl⟩
end Go.Proofs.Ytfnmlffpnmmcdaa
