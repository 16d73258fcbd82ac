/- Plain laws of timelines (lists of pairs): no program in sight. -/
import Derived.Test.YthkdofflfaikgaaPost
namespace Go.Proofs.Ythkdofflfaikgaa
/-- Does p stand before q? -/
def Bef (p q : ElPost) : Prop := q.1 < p.1 ∨ (p.1 = q.1 ∧ q.2 < p.2)
instance (p q : ElPost) : Decidable (Bef p q) := inferInstanceAs (Decidable (_ ∨ _))
def befB (p q : ElPost) : Bool := decide (Bef p q)
theorem befB_true {p q : ElPost} (h : Bef p q) : befB p q = true := decide_eq_true h
theorem befB_false {p q : ElPost} (h : ¬ Bef p q) : befB p q = false := decide_eq_false h
theorem Bef.of {p q : ElPost} (h : befB p q = true) : Bef p q := of_decide_eq_true h
theorem Bef.trans {p q r : ElPost} (h : Bef p q) (k : Bef q r) : Bef p r := by unfold Bef at *; omega
theorem Bef.irrefl {p : ElPost} : ¬ Bef p p := by unfold Bef; omega
theorem Bef.asymm {p q : ElPost} (h : Bef p q) : ¬ Bef q p := by unfold Bef at *; omega
theorem bef_tri (p q : ElPost) : Bef p q ∨ p = q ∨ Bef q p := by
  unfold Bef
  by_cases h1 : p.1 = q.1
  · by_cases h2 : p.2 = q.2
    · exact .inr (.inl (Prod.ext h1 h2))
    · omega
  · omega
/-- Is the place in order? -/
def OkP (p : ElPost) : Prop := 0 ≤ p.1 ∧ p.1 ≤ 1000000000 ∧ 0 ≤ p.2 ∧ p.2 ≤ 1000000000
def OkAt (ps : List ElPost) (k : Nat) : Prop := OkP (gt ps k) ∧ (0 < k → Bef (gt ps (k - 1)) (gt ps k))
instance (p : ElPost) : Decidable (OkP p) := inferInstanceAs (Decidable (_ ∧ _ ∧ _ ∧ _))
instance (ps : List ElPost) (k : Nat) : Decidable (OkAt ps k) := inferInstanceAs (Decidable (_ ∧ (_ → _)))
def okUp (ps : List ElPost) (k : Nat) : Prop := ∀ j, j < k → OkAt ps j
instance (ps : List ElPost) (k : Nat) : Decidable (okUp ps k) := Nat.decidableBallLT k (fun j _ => OkAt ps j)
def Tv (ps : List ElPost) : Prop := ps.length ≤ 40 ∧ okUp ps ps.length
instance (ps : List ElPost) : Decidable (Tv ps) := inferInstanceAs (Decidable (_ ∧ _))
/-- Is the timeline valid? -/
def tvB (ps : List ElPost) : Bool := decide (Tv ps)
theorem okUp_succ {ps : List ElPost} {k : Nat} (h : okUp ps k) (h1 : OkAt ps k) : okUp ps (k + 1) := by
  intro j hj
  rcases Nat.lt_succ_iff_lt_or_eq.1 hj with h' | rfl
  · exact h j h'
  · exact h1
theorem tvB_true {ps : List ElPost} (hl : ps.length ≤ 40) (h : okUp ps ps.length) : tvB ps = true := decide_eq_true ⟨hl, h⟩
theorem tvB_long {ps : List ElPost} (hl : 40 < ps.length) : tvB ps = false := decide_eq_false fun h => by have := h.1; omega
theorem tvB_bad {ps : List ElPost} {k : Nat} (hk : k < ps.length) (h : ¬ OkAt ps k) : tvB ps = false := decide_eq_false fun hv => h (hv.2 k hk)
theorem Tv.of {ps : List ElPost} (h : tvB ps = true) : Tv ps := of_decide_eq_true h
theorem tvB_all {ps : List ElPost} (h : okUp ps ps.length) : decide ((ps.length : Int) ≤ 40) = tvB ps :=
  decide_eq_decide.2 ⟨fun hh => ⟨by omega, h⟩, fun hh => by have := hh.1; omega⟩
theorem Tv.sorted {ps : List ElPost} (h : Tv ps) : ∀ j i, i < j → j < ps.length → Bef (gt ps i) (gt ps j) := by
  intro j
  induction j with
  | zero => intro i hi; omega
  | succ j ih =>
    intro i hi hj
    have h1 := (h.2 (j + 1) hj).2 (by omega)
    rw [Nat.add_sub_cancel] at h1
    rcases Nat.lt_succ_iff_lt_or_eq.1 hi with h2 | rfl
    · exact (ih i h2 (by omega)).trans h1
    · exact h1
/-- From the beginning, in order, in range. -/
theorem Tv.mk {ps : List ElPost} (hl : ps.length ≤ 40) (h1 : ∀ p ∈ ps, OkP p) (h2 : ∀ i j, i < j → j < ps.length → Bef (gt ps i) (gt ps j)) : Tv ps :=
  ⟨hl, fun j hj => ⟨h1 _ (gt_mem hj), fun h0 => h2 _ _ (by omega) hj⟩⟩
theorem Tv.ok {ps : List ElPost} (h : Tv ps) {p : ElPost} (hp : p ∈ ps) : OkP p := by
  obtain ⟨k, hk, rfl⟩ := mem_gt hp
  exact (h.2 k hk).1
/-- Those of the first k from a time or earlier, at most so many. -/
def pbTo (ps : List ElPost) (when many : Int) (k : Nat) : List ElPost := ((ps.take k).filter (fun p => decide (p.1 ≤ when))).take many.toNat
theorem pbTo_zero (ps : List ElPost) (when many : Int) : pbTo ps when many 0 = [] := by simp [pbTo]
theorem pbTo_len (ps : List ElPost) (when many : Int) (k : Nat) : (pbTo ps when many k).length ≤ k := by
  unfold pbTo
  have h1 := List.length_filter_le (fun p : ElPost => decide (p.1 ≤ when)) (ps.take k)
  simp only [List.length_take] at h1 ⊢
  omega
theorem pbTo_late {ps : List ElPost} {when many : Int} {k : Nat} (hk : k < ps.length) (h : ¬ (gt ps k).1 ≤ when) : pbTo ps when many (k + 1) = pbTo ps when many k := by
  unfold pbTo
  rw [take_snoc hk, List.filter_append]
  simp [h]
theorem pbTo_full {ps : List ElPost} {when many : Int} {k : Nat} (h : many ≤ ((pbTo ps when many k).length : Int)) (j : Nat) (hj : k ≤ j) : pbTo ps when many j = pbTo ps when many k := by
  unfold pbTo at *
  have hp : ∃ r, ps.take j = ps.take k ++ r := ⟨(ps.take j).drop k, by
    rw [show ps.take k = (ps.take j).take k by rw [List.take_take, Nat.min_eq_left hj], List.take_append_drop]⟩
  obtain ⟨r, hr⟩ := hp
  rw [hr, List.filter_append, List.take_append_of_le_length]
  simp only [List.length_take] at h
  omega
theorem pbTo_one {ps : List ElPost} {when many : Int} {k : Nat} (hk : k < ps.length) (h : (gt ps k).1 ≤ when) (hm : ((pbTo ps when many k).length : Int) < many) : pbTo ps when many (k + 1) = pbTo ps when many k ++ [gt ps k] := by
  unfold pbTo at *
  rw [take_snoc hk, List.filter_append]
  simp only [List.length_take] at hm
  have hle : ((ps.take k).filter (fun p => decide (p.1 ≤ when))).length < many.toNat := by omega
  rw [List.take_append, List.take_of_length_le (Nat.le_of_lt hle), List.filter_cons]
  simp only [h, decide_true, if_true, List.filter_nil]
  rw [List.take_of_length_le (l := [gt ps k]) (by simp; omega)]
def postsBefore (ps : List ElPost) (when many : Int) : List ElPost := if tvB ps = true ∧ 0 ≤ many ∧ many ≤ 40 then pbTo ps when many ps.length else []
theorem postsBefore_yes {ps : List ElPost} {when many : Int} (h : tvB ps = true) (h0 : 0 ≤ many) (h1 : many ≤ 40) : postsBefore ps when many = pbTo ps when many ps.length := if_pos ⟨h, h0, h1⟩
theorem postsBefore_no {ps : List ElPost} {when many : Int} (h : ¬ (tvB ps = true ∧ 0 ≤ many ∧ many ≤ 40)) : postsBefore ps when many = [] := if_neg h
theorem postsBefore_len (ps : List ElPost) (when many : Int) : (postsBefore ps when many).length ≤ 1048576 := by
  unfold postsBefore
  split
  · next h => have := pbTo_len ps when many ps.length; have := (Tv.of h.1).1; omega
  · simp
end Go.Proofs.Ythkdofflfaikgaa
