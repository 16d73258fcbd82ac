/- Slices that lie anywhere in a block of the call's own: what they hold, and append onto them. -/
import Derived.Test.YtnplpllhochlfaaTail
import Derived.Laws.CopyRow
namespace Go.Proofs.Ytnplpllhochlfaa
open Go.RowKit
/-- The slice (A, n, cap) lies in a block from base on, wherever in it, and holds f. -/
def Sub (w : World) (base e sz : Nat) (A : Option Addr) (n cap : Nat) (f : Nat → Value) : Prop :=
  (A = none ∧ n = 0 ∧ cap = 0) ∨ ∃ g off cur, A = some ⟨g, off, none⟩ ∧ base ≤ g ∧ w.heap[g]? = some (.cells cur e (0, 0)) ∧ n ≤ cap ∧ cap ≤ maxLen ∧ off + cap * sz ≤ cur.size ∧ ∀ j, j < n * sz → cur[off + j]? = some (f j)
section
variable {w w' : World} {base base' e sz n cap : Nat} {A : Option Addr} {f g : Nat → Value}
theorem Own.sub (h : Own w base e sz A n cap f) : Sub w base e sz A n cap f := by
  rcases h.2 with ⟨hv, _⟩ | ⟨g, c, cur, hv, hb, hg, hn, hc, hs, ht⟩
  · injection hv with h1 h2 h3; exact .inl ⟨h1, h2, h3⟩
  · injection hv with h1 h2 h3
    subst h1; subst h3
    refine .inr ⟨g, 0, cur, rfl, hb, hg, hn, hc, by rw [hs]; omega, fun j hj => ?_⟩
    have := congrArg (fun l => l[j]?) ht
    simp only [List.getElem?_take, if_pos hj, range_map_get f hj] at this
    rw [Nat.zero_add, ← Array.getElem?_toList]
    exact this
theorem Sub.lt (h : Sub w base e sz A n cap f) {b : Nat} (hb : blk A = some b) : base ≤ b ∧ b < w.heap.size := by
  rcases h with ⟨rfl, _⟩ | ⟨g, off, cur, rfl, h1, h2, _⟩
  · cases hb
  · simp [blk] at hb; subst hb
    exact ⟨h1, (Array.getElem?_eq_some_iff.1 h2).1⟩
theorem Sub.keep (h : Sub w base e sz A n cap f) (hk : ∀ b, blk A = some b → w'.heap[b]? = w.heap[b]?) : Sub w' base e sz A n cap f := by
  rcases h with h | ⟨g, off, cur, rfl, h1, h2, h3⟩
  · exact .inl h
  · exact .inr ⟨g, off, cur, rfl, h1, by rw [hk g rfl]; exact h2, h3⟩
theorem Sub.below (h : Sub w base e sz A n cap f) (hb : Below w.heap.size w w') : Sub w' base e sz A n cap f := h.keep fun _ hq => hb.block _ (h.lt hq).2
theorem Sub.grown (h : Sub w base e sz A n cap f) {row : Option Nat} (hg : w.grownBy w' row) (hne : ∀ b, row = some b → b < base) : Sub w' base e sz A n cap f := h.keep fun b hq => hg.block b (h.lt hq).2 (fun e => by have := hne b e.symm; have := (h.lt hq).1; omega)
theorem Sub.more (h : Sub w base e sz A n cap f) (hb : base' ≤ base) : Sub w base' e sz A n cap f := by
  rcases h with h | ⟨g, off, cur, rfl, h1, h2⟩
  · exact .inl h
  · exact .inr ⟨g, off, cur, rfl, by omega, h2⟩
theorem Sub.shp (h : Sub w base e sz A n cap f) : Shp A n cap := by
  rcases h with h | ⟨g, off, cur, rfl, _, _, h1, h2, _⟩
  · exact .inl h
  · exact .inr ⟨g, off, rfl, h1, h2⟩
theorem Sub.capLe (h : Sub w base e sz A n cap f) : n ≤ cap := by
  rcases h with ⟨_, h1, h2⟩ | ⟨_, _, _, _, _, _, h1, _⟩ <;> omega
theorem Sub.congr (h : Sub w base e sz A n cap f) (hfg : ∀ j, j < n * sz → f j = g j) : Sub w base e sz A n cap g := by
  rcases h with h | ⟨b, off, cur, rfl, h1, h2, h3, h4, h5, h6⟩
  · exact .inl h
  · exact .inr ⟨b, off, cur, rfl, h1, h2, h3, h4, h5, fun j hj => by rw [h6 j hj, hfg j hj]⟩
theorem Sub.rd (h : Sub w base e sz A n cap f) : Rd w w.heap.size sz A n f := fun hn => by
  rcases h with ⟨_, h0, _⟩ | ⟨g, off, cur, rfl, _, h2, _, _, _, h6⟩
  · omega
  · exact ⟨g, off, rfl, (Array.getElem?_eq_some_iff.1 h2).1, fun j hj => by rw [cell_of_row w g (off + j) cur e (0, 0) h2]; exact h6 j hj⟩
theorem Sub.tail (h : Sub w base e sz A n cap f) {k : Nat} (hk : k ≤ n) : Sub w base e sz (tlA A cap k sz) (n - k) (cap - k) (fun j => f (k * sz + j)) := by
  rcases h with ⟨rfl, rfl, rfl⟩ | ⟨g, off, cur, rfl, h1, h2, h3, h4, h5, h6⟩
  · obtain rfl : k = 0 := by omega
    exact .inl ⟨by simp [tlA], rfl, rfl⟩
  · rw [tlA_some]
    have hmul : cap * sz = (cap - k) * sz + k * sz := by rw [← Nat.add_mul]; congr 1; omega
    have hmul2 : n * sz = (n - k) * sz + k * sz := by rw [← Nat.add_mul]; congr 1; omega
    refine .inr ⟨g, _, cur, rfl, h1, h2, by omega, by omega, ?_, fun j hj => ?_⟩
    · split
      · next hc => subst hc; simp; omega
      · omega
    · split
      · next hc => subst hc; rw [show n - cap = 0 by omega] at hj; simp at hj
      · rw [Nat.add_assoc, h6 _ (by omega)]
end
section
variable {P : Program} {w : World}
theorem run_appendS (base : Nat) (t ty e : TypeId) (z : Value) (sz bytes : Nat) (ht : P.underlying t = some (.slice e)) (hinfo : (P.info? e).map (fun i => (i.zero, i.size, i.bytes)) = some (some z, sz, bytes))
    (hzs : z.cells.size = sz) (hsz : 0 < sz) (A A' : Option Addr) (n cap m c B : Nat) (f g : Nat → Value) (hown : Sub w base e sz A n cap f) (hr : Rd w B sz A' m g) (hm0 : 0 < m) (h1 : ∀ j, j < m * sz → (g j).oneCell' = true)
    (h63 : n + m ≤ maxLen) (hbytes : (n + m) * bytes ≤ 140737488355328) (hbase : base ≤ w.heap.size) :
    ∃ A1 cap1 w1, (Builtin.append_ #[t, t] ty #[.slice A n cap, .slice A' m c]).run P w = .ok (.slice A1 (n + m) cap1) w1 ∧ Sub w1 base e sz A1 (n + m) cap1 (fun j => if j < n * sz then f j else g (j - n * sz)) ∧ w.grownBy w1 (blk A) := by
  rcases hown with ⟨rfl, rfl, rfl⟩ | ⟨b0, off, cur, rfl, hb0, hcur, hnc, hcm, hfit, hcell⟩
  · obtain ⟨A1, cap1, w1, h2, h3, h4⟩ := run_append (P := P) (w := w) base t ty e z sz bytes ht hinfo hzs hsz none A' 0 0 m c B f g (Own.nil w base e sz f) hr h1 h63 hbytes hbase
    exact ⟨A1, cap1, w1, h2, Own.sub h3, h4⟩
  · obtain ⟨i, hi, hz, hs, hb⟩ := info_parts hinfo
    subst hs; subst hb
    obtain ⟨b, o2, rfl, hbB, hc⟩ := hr hm0
    have hnl : ((List.range (m * i.size)).map g).length = m * i.size := by simp
    have hnews : ∀ j u, ((List.range (m * i.size)).map g)[j]? = some u → w.cell? ((⟨b, o2, none⟩ : Addr).add j) = some u := fun j u hu => by
      have hj : j < m * i.size := by
        have := (List.getElem?_eq_some_iff.1 hu).1
        simpa using this
      rw [range_map_get g hj] at hu
      rw [Addr.add_lit, hc j hj, hu]
    have hone : ∀ u ∈ (List.range (m * i.size)).map g, u.oneCell' = true := fun u hu => by
      simp only [List.mem_map, List.mem_range] at hu
      obtain ⟨j, hj, rfl⟩ := hu
      exact h1 j hj
    have hlt := (Array.getElem?_eq_some_iff.1 hcur).1
    by_cases hroom : n + m ≤ cap
    · have hmul : (n + m) * i.size ≤ cap * i.size := Nat.mul_le_mul_right _ hroom
      rw [Nat.add_mul] at hmul
      have hst := run_storeCells_at P b0 (off + n * i.size) e ((List.range (m * i.size)).map g) 0 cur w hcur (by rw [hnl]; omega) hone
      have hf := run_firstCells_some (P := P) w i.size m ⟨b, o2, none⟩ m c _ hnl hnews
      simp only [Nat.add_zero] at hst
      refine ⟨some ⟨b0, off, none⟩, cap, w.setRow b0 (cur.toList.take (off + n * i.size) ++ (List.range (m * i.size)).map g ++ cur.toList.drop (off + n * i.size + ((List.range (m * i.size)).map g).length)).toArray, ?_, .inr ⟨b0, off, _, rfl, hb0, setRow_heap w b0 cur _ e _ hcur, hroom, hcm, ?_, fun j hj => ?_⟩, ⟨rfl, rfl, rfl, by simp, fun k _ hk => setRow_other w b0 k _ (fun e => hk (by simp [blk, e]))⟩⟩
      · simp [Builtin.append_, run_underlying ht, sizeOf, typeInfo, hi, Builtin.lenOf, hroom, hf, Addr.add_lit, hst]
      · simp only [List.size_toArray, List.length_append, List.length_take, List.length_drop, Array.length_toList, hnl]
        omega
      · rw [Nat.add_mul] at hj
        have htl : (cur.toList.take (off + n * i.size)).length = off + n * i.size := by simp; omega
        simp only [List.getElem?_toArray]
        by_cases hjn : j < n * i.size
        · rw [if_pos hjn, List.append_assoc, List.getElem?_append_left (by rw [htl]; omega), List.getElem?_take, if_pos (by omega), Array.getElem?_toList]
          exact hcell j hjn
        · rw [if_neg hjn, List.append_assoc, List.getElem?_append_right (by rw [htl]; omega), htl, List.getElem?_append_left (by rw [hnl]; omega), show off + j - (off + n * i.size) = j - n * i.size by omega]
          exact range_map_get g (by omega)
    · have hol : ((List.range (n * i.size)).map f).length = n * i.size := by simp
      have holds : ∀ j u, ((List.range (n * i.size)).map f)[j]? = some u → w.cell? ((⟨b0, off, none⟩ : Addr).add j) = some u := fun j u hu => by
        have hj : j < n * i.size := by
          have := (List.getElem?_eq_some_iff.1 hu).1
          simpa using this
        rw [range_map_get f hj] at hu
        rw [Addr.add_lit, cell_of_row w b0 (off + j) cur e (0, 0) hcur, hcell j hj, hu]
      have hgr := run_append_grow (P := P) w t ty e i z ht hi hz ⟨b0, off, none⟩ n cap _ hol holds ⟨b, o2, none⟩ m c _ hnl hnews (by omega) (by simp only [maxLen] at h63; omega) (growslice_fits (by omega) hbytes)
      refine ⟨_, _, _, hgr, .inr ⟨w.heap.size, 0, _, rfl, hbase, heap_alloc_new w.drew _, grownCap_ge w (n + m) cap e, grownCap_le_maxLen w (n + m) cap e h63, ?_, fun j hj => ?_⟩, ⟨rfl, rfl, rfl, by simp, fun k hk _ => ((Below.refl w.heap.size w).drew.alloc (Nat.le_refl _) _).block k hk⟩⟩
      · have hge := grownCap_ge w (n + m) cap e
        simp only [Array.size_append, List.size_toArray, size_zeroCells, hzs, hol, hnl, ← Nat.add_mul]
        rw [show n + m + (grownCap w (n + m) cap e - (n + m)) = grownCap w (n + m) cap e by omega]
        omega
      · rw [Nat.add_mul] at hj
        rw [Nat.zero_add]
        show _ = some (if j < n * i.size then f j else g (j - n * i.size))
        by_cases hjn : j < n * i.size
        · rw [if_pos hjn, Array.append_assoc, Array.getElem?_append_left (by simp; omega)]
          simp [hjn]
        · rw [if_neg hjn, Array.append_assoc, Array.getElem?_append_right (by simp; omega), Array.getElem?_append_left (by simp; omega)]
          simp only [List.size_toArray, hol, List.getElem?_toArray]
          exact range_map_get g (by omega)
theorem wpList_appS {ops : Array Oper} {rest : List Oper} {o : Oper} {a : Act} {Q : Exit → Act → World → Prop} (hgd : o.guard = none) (s x : Operand) (t : TypeId)
    (ho : o.op = .call { callee := .builtin .append, args := #[s, x], argTypes := #[t, t] })
    (base : Nat) (e : TypeId) (z : Value) (sz bytes : Nat) (ht : P.underlying t = some (.slice e)) (hinfo : (P.info? e).map (fun i => (i.zero, i.size, i.bytes)) = some (some z, sz, bytes))
    (hzs : z.cells.size = sz) (hsz : 0 < sz) (A A' : Option Addr) (n cap m c B : Nat) (f g : Nat → Value) (hs : a.eval s = .slice A n cap) (hx : a.eval x = .slice A' m c) (hown : Sub w base e sz A n cap f) (hr : Rd w B sz A' m g) (hm0 : 0 < m) (h1 : ∀ j, j < m * sz → (g j).oneCell' = true)
    (h63 : n + m ≤ maxLen) (hbytes : (n + m) * bytes ≤ 140737488355328) (hbase : base ≤ w.heap.size)
    (h : ∀ A1 cap1 w1, Sub w1 base e sz A1 (n + m) cap1 (fun j => if j < n * sz then f j else g (j - n * sz)) → w.grownBy w1 (blk A) → wpList P ops Q rest (a.put o.dst (.slice A1 (n + m) cap1)) w1) : wpList P ops Q (o :: rest) a w := by
  refine wpList_plain hgd fun K hK => ?_
  obtain ⟨A1, cap1, w1, hrun, h2, h3⟩ := run_appendS (P := P) (w := w) base t o.type e z sz bytes ht hinfo hzs hsz A A' n cap m c B f g hown hr hm0 h1 h63 hbytes hbase
  unfold Oper.wp execOp
  simp only [ho, resolve, invoke, builtin, Sem.run_bind, Sem.run_pure, Result.andThen_ok, List.map_toArray, List.map_cons, List.map_nil, hs, hx, hrun]
  exact hK _ _ (h A1 cap1 w1 h2 h3)
end
section
variable {α : Type} [Inhabited α] {sz : Nat} {enc : α → Nat → Value} {e : TypeId} {w : World} {base cap : Nat} {A : Option Addr} {xs : List α}
/-- A part of a block that holds a list of elements. -/
def SubE (sz : Nat) (enc : α → Nat → Value) (e : TypeId) (w : World) (base : Nat) (A : Option Addr) (cap : Nat) (xs : List α) : Prop := Sub w base e sz A xs.length cap (cE sz enc xs)
theorem OwnE.sub (h : OwnE sz enc e w base A cap xs) : SubE sz enc e w base A cap xs := Own.sub h
theorem SubE.rd (h : SubE sz enc e w base A cap xs) : RdE sz enc w w.heap.size A xs := Sub.rd h
theorem SubE.drop (hz : 0 < sz) (h : SubE sz enc e w base A cap xs) {k : Nat} (hk : k ≤ xs.length) : SubE sz enc e w base (tlA A cap k sz) (cap - k) (xs.drop k) := by
  unfold SubE
  rw [List.length_drop]
  refine Sub.congr (Sub.tail h hk) fun j _ => ?_
  unfold cE
  rw [gt_drop, Nat.mul_comm k sz, Nat.mul_add_div hz, Nat.mul_add_mod]
theorem SubE.push {y : α} {n : Nat} (hz : 0 < sz) (hn : xs.length = n) (h : Sub w base e sz A (n + 1) cap (fun j => if j < n * sz then cE sz enc xs j else enc y (j - n * sz))) : SubE sz enc e w base A cap (xs ++ [y]) := by
  subst hn
  unfold SubE
  rw [List.length_append]
  refine Sub.congr h fun j hj => ?_
  unfold cE
  rw [gt_append]
  by_cases hj1 : j < xs.length * sz
  · rw [if_pos hj1, if_pos ((Nat.div_lt_iff_lt_mul hz).2 hj1)]
  · have hge : xs.length ≤ j / sz := (Nat.le_div_iff_mul_le hz).2 (by omega)
    rw [if_neg hj1, if_neg (by omega)]
    obtain ⟨d, rfl⟩ : ∃ d, j = xs.length * sz + d := ⟨j - xs.length * sz, by omega⟩
    have hd : d < sz := by rw [Nat.add_mul, List.length_singleton, Nat.one_mul] at hj; omega
    rw [Nat.add_sub_cancel_left, Nat.mul_comm, Nat.mul_add_div hz, Nat.mul_add_mod, Nat.add_sub_cancel_left, Nat.div_eq_of_lt hd, Nat.mod_eq_of_lt hd]
    rfl
end
end Go.Proofs.Ytnplpllhochlfaa
