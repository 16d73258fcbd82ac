/- Plain laws of timelines (lists of pairs): no program in sight. -/
import Derived.Test.YthkdofflfaikgaaPost
namespace Go.Proofs.Ythkdofflfaikgaa
/-- Does p stand before q? -/
def Bef (p q : ElPost) : Prop := q.1 < p.1 ∨ (p.1 = q.1 ∧ q.2 < p.2)
instance (p q : ElPost) : Decidable (Bef p q) := inferInstanceAs (Decidable (_ ∨ _))
def befB (p q : ElPost) : Bool := decide (Bef p q)
theorem befB_true {p q : ElPost} (h : Bef p q) : befB p q = true := decide_eq_true h
theorem befB_false {p q : ElPost} (h : ¬ Bef p q) : befB p q = false := decide_eq_false h
theorem Bef.of {p q : ElPost} (h : befB p q = true) : Bef p q := of_decide_eq_true h
theorem Bef.trans {p q r : ElPost} (h : Bef p q) (k : Bef q r) : Bef p r := by unfold Bef at *; omega
theorem Bef.irrefl {p : ElPost} : ¬ Bef p p := by unfold Bef; omega
theorem Bef.asymm {p q : ElPost} (h : Bef p q) : ¬ Bef q p := by unfold Bef at *; omega
theorem bef_tri (p q : ElPost) : Bef p q ∨ p = q ∨ Bef q p := by
  unfold Bef
  by_cases h1 : p.1 = q.1
  · by_cases h2 : p.2 = q.2
    · exact .inr (.inl (Prod.ext h1 h2))
    · omega
  · omega
/-- Is the place in order? -/
def OkP (p : ElPost) : Prop := 0 ≤ p.1 ∧ p.1 ≤ 1000000000 ∧ 0 ≤ p.2 ∧ p.2 ≤ 1000000000
def OkAt (ps : List ElPost) (k : Nat) : Prop := OkP (gt ps k) ∧ (0 < k → Bef (gt ps (k - 1)) (gt ps k))
instance (p : ElPost) : Decidable (OkP p) := inferInstanceAs (Decidable (_ ∧ _ ∧ _ ∧ _))
instance (ps : List ElPost) (k : Nat) : Decidable (OkAt ps k) := inferInstanceAs (Decidable (_ ∧ (_ → _)))
def okUp (ps : List ElPost) (k : Nat) : Prop := ∀ j, j < k → OkAt ps j
instance (ps : List ElPost) (k : Nat) : Decidable (okUp ps k) := Nat.decidableBallLT k (fun j _ => OkAt ps j)
def Tv (ps : List ElPost) : Prop := ps.length ≤ 40 ∧ okUp ps ps.length
instance (ps : List ElPost) : Decidable (Tv ps) := inferInstanceAs (Decidable (_ ∧ _))
/-- Is the timeline valid? -/
def tvB (ps : List ElPost) : Bool := decide (Tv ps)
theorem okUp_succ {ps : List ElPost} {k : Nat} (h : okUp ps k) (h1 : OkAt ps k) : okUp ps (k + 1) := by
  intro j hj
  rcases Nat.lt_succ_iff_lt_or_eq.1 hj with h' | rfl
  · exact h j h'
  · exact h1
theorem tvB_true {ps : List ElPost} (hl : ps.length ≤ 40) (h : okUp ps ps.length) : tvB ps = true := decide_eq_true ⟨hl, h⟩
theorem tvB_long {ps : List ElPost} (hl : 40 < ps.length) : tvB ps = false := decide_eq_false fun h => by have := h.1; omega
theorem tvB_bad {ps : List ElPost} {k : Nat} (hk : k < ps.length) (h : ¬ OkAt ps k) : tvB ps = false := decide_eq_false fun hv => h (hv.2 k hk)
theorem Tv.of {ps : List ElPost} (h : tvB ps = true) : Tv ps := of_decide_eq_true h
theorem tvB_all {ps : List ElPost} (h : okUp ps ps.length) : decide ((ps.length : Int) ≤ 40) = tvB ps :=
  decide_eq_decide.2 ⟨fun hh => ⟨by omega, h⟩, fun hh => by have := hh.1; omega⟩
theorem Tv.sorted {ps : List ElPost} (h : Tv ps) : ∀ j i, i < j → j < ps.length → Bef (gt ps i) (gt ps j) := by
  intro j
  induction j with
  | zero => intro i hi; omega
  | succ j ih =>
    intro i hi hj
    have h1 := (h.2 (j + 1) hj).2 (by omega)
    rw [Nat.add_sub_cancel] at h1
    rcases Nat.lt_succ_iff_lt_or_eq.1 hi with h2 | rfl
    · exact (ih i h2 (by omega)).trans h1
    · exact h1
/-- From the beginning, in order, in range. -/
theorem Tv.mk {ps : List ElPost} (hl : ps.length ≤ 40) (h1 : ∀ p ∈ ps, OkP p) (h2 : ∀ i j, i < j → j < ps.length → Bef (gt ps i) (gt ps j)) : Tv ps :=
  ⟨hl, fun j hj => ⟨h1 _ (gt_mem hj), fun h0 => h2 _ _ (by omega) hj⟩⟩
theorem Tv.ok {ps : List ElPost} (h : Tv ps) {p : ElPost} (hp : p ∈ ps) : OkP p := by
  obtain ⟨k, hk, rfl⟩ := mem_gt hp
  exact (h.2 k hk).1
end Go.Proofs.Ythkdofflfaikgaa
