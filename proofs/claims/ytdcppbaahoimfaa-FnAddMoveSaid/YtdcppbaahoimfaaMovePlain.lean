/- Plain laws of moves. No program in sight. -/
import Derived.Test.YtdcppbaahoimfaaMove
import Derived.Test.YtdcppbaahoimfaaHvPlain
namespace Go.Proofs.Ytdcppbaahoimfaa
/-- Is the move from it? -/
def isF (h : ElHandle) (m : ElMove) : Bool := eqEl (α := ElHandle) (m.1.1, m.1.2) (h.1, h.2)
theorem isF_true {h : ElHandle} {m : ElMove} : isF h m = true ↔ m.1 = h := by
  unfold isF
  constructor
  · intro q
    by_cases e : m.1 = h
    · exact e
    · have : eqEl (α := ElHandle) (m.1.1, m.1.2) (h.1, h.2) = false := eqEl_false e
      rw [this] at q; cases q
  · intro e; exact eqEl_true e
theorem isF_false {h : ElHandle} {m : ElMove} : isF h m = false ↔ m.1 ≠ h := by
  constructor
  · intro q e; rw [isF_true.2 e] at q; cases q
  · intro q
    cases e : isF h m
    · rfl
    · exact absurd (isF_true.1 e) q
/-- The number of the first move from a handle. -/
def fromIx (ms : List ElMove) (h : ElHandle) : Int := ix (isF h) ms
/-- One step. -/
def nextH (ms : List ElMove) (h : ElHandle) : ElHandle := if fi (isF h) ms < ms.length then (gt ms (fi (isF h) ms)).2 else h
/-- So many steps. -/
def orb (ms : List ElMove) (h : ElHandle) : Nat → ElHandle
  | 0 => h
  | i + 1 => nextH ms (orb ms h i)
theorem orb_zero (ms : List ElMove) (h : ElHandle) : orb ms h 0 = h := rfl
theorem orb_succ (ms : List ElMove) (h : ElHandle) (i : Nat) : orb ms h (i + 1) = nextH ms (orb ms h i) := rfl
theorem orb_add (ms : List ElMove) (h : ElHandle) (i d : Nat) : orb ms h (i + d) = orb ms (orb ms h i) d := by
  induction d with
  | zero => rfl
  | succ d ih => rw [← Nat.add_assoc, orb_succ, orb_succ, ih]
theorem orb_stuck {ms : List ElMove} {h : ElHandle} (hs : nextH ms h = h) (d : Nat) : orb ms h d = h := by
  induction d with
  | zero => rfl
  | succ d ih => rw [orb_succ, ih, hs]
/-- One place in order. -/
def OkM (ms : List ElMove) (k : Nat) : Prop := hvB (gt ms k).1 = true ∧ hvB (gt ms k).2 = true ∧ (∀ j, j < k → (gt ms j).1 ≠ (gt ms k).1) ∧ ∀ i, i < ms.length + 1 → orb ms (gt ms k).2 i ≠ (gt ms k).1
instance (ms : List ElMove) (k : Nat) : Decidable (OkM ms k) := by unfold OkM; infer_instance
/-- MovesValid's answer. -/
def mvB (ms : List ElMove) : Bool := vdB OkM 8 ms
/-- inCircle's answer. -/
def circB (ms : List ElMove) (m : ElMove) : Bool := decide (∃ i, i < ms.length ∧ orb ms m.2 i = m.1)
theorem circB_at {ms : List ElMove} {m : ElMove} {i : Nat} (hi : i < ms.length) (h : orb ms m.2 i = m.1) : circB ms m = true := decide_eq_true ⟨i, hi, h⟩
theorem circB_no {ms : List ElMove} {m : ElMove} (h : ∀ i, i < ms.length → orb ms m.2 i ≠ m.1) : circB ms m = false := decide_eq_false fun ⟨i, hi, e⟩ => h i hi e
theorem circB_stuck {ms : List ElMove} {m : ElMove} {k : Nat} (h : ∀ i, i < k + 1 → orb ms m.2 i ≠ m.1) (hs : nextH ms (orb ms m.2 k) = orb ms m.2 k) : circB ms m = false := circB_no fun i _ => by
  rcases Nat.lt_or_ge i (k + 1) with q | q
  · exact h i q
  · rw [show i = k + (i - k) by omega, orb_add, orb_stuck hs]; exact h k (by omega)
theorem pigeon : ∀ (n : Nat) (f : Nat → Nat), (∀ i, i ≤ n → f i < n) → ∃ i j, i < j ∧ j ≤ n ∧ f i = f j
  | 0, f, h => absurd (h 0 (by omega)) (by omega)
  | n + 1, f, h => by
    by_cases hv : ∃ i, i ≤ n ∧ f i = f (n + 1)
    · obtain ⟨i, hi, e⟩ := hv
      exact ⟨i, n + 1, by omega, by omega, e⟩
    · have hne : ∀ i, i ≤ n → f i ≠ f (n + 1) := fun i hi e => hv ⟨i, hi, e⟩
      have hl := h (n + 1) (by omega)
      obtain ⟨i, j, hij, hj, e⟩ := pigeon n (fun i => if f i < f (n + 1) then f i else f i - 1) (fun i hi => by
        have h1 := h i (by omega)
        have h2 := hne i hi
        show (if f i < f (n + 1) then f i else f i - 1) < n
        split <;> omega)
      have h1 := hne i (by omega)
      have h2 := hne j hj
      refine ⟨i, j, hij, by omega, ?_⟩
      have e' : (if f i < f (n + 1) then f i else f i - 1) = (if f j < f (n + 1) then f j else f j - 1) := e
      split at e' <;> split at e' <;> omega
theorem fi_from {ms : List ElMove} {h : ElHandle} (q : fi (isF h) ms < ms.length) : (gt ms (fi (isF h) ms)).1 = h := isF_true.1 (fi_at q)
/-- What does not come back in as many steps as there are moves never does. -/
theorem orb_full {ms : List ElMove} {k : Nat} (hk : k < ms.length) (h : ∀ i, i < ms.length → orb ms (gt ms k).2 i ≠ (gt ms k).1) : ∀ i, i < ms.length + 1 → orb ms (gt ms k).2 i ≠ (gt ms k).1 := by
  intro i hi e
  have hin : i = ms.length := by
    rcases Nat.lt_or_ge i ms.length with q | q
    · exact absurd e (h i q)
    · omega
  subst hin
  have hmv : ∀ i, i < ms.length → fi (isF (orb ms (gt ms k).2 i)) ms < ms.length := fun i hi => by
    rcases Nat.lt_or_ge (fi (isF (orb ms (gt ms k).2 i)) ms) ms.length with q | q
    · exact q
    · have hs : nextH ms (orb ms (gt ms k).2 i) = orb ms (gt ms k).2 i := if_neg (by omega)
      rw [show ms.length = i + (ms.length - i) by omega, orb_add, orb_stuck hs] at e
      exact absurd e (h i hi)
  have hne : ∀ i, i < ms.length → fi (isF (orb ms (gt ms k).2 i)) ms ≠ k := fun i hi q => by
    have := fi_from (hmv i hi)
    rw [q] at this
    exact h i hi this.symm
  obtain ⟨i, j, hij, hj, eq⟩ := pigeon (ms.length - 1) (fun i => if fi (isF (orb ms (gt ms k).2 i)) ms < k then fi (isF (orb ms (gt ms k).2 i)) ms else fi (isF (orb ms (gt ms k).2 i)) ms - 1) (fun i hi => by
    have h1 := hmv i (by omega)
    have h2 := hne i (by omega)
    show (if fi (isF (orb ms (gt ms k).2 i)) ms < k then fi (isF (orb ms (gt ms k).2 i)) ms else fi (isF (orb ms (gt ms k).2 i)) ms - 1) < ms.length - 1
    split <;> omega)
  have h1 := hne i (by omega)
  have h2 := hne j (by omega)
  have h3 := fi_from (hmv i (by omega))
  have h4 := fi_from (hmv j (by omega))
  have he : fi (isF (orb ms (gt ms k).2 i)) ms = fi (isF (orb ms (gt ms k).2 j)) ms := by
    have e' : (if fi (isF (orb ms (gt ms k).2 i)) ms < k then fi (isF (orb ms (gt ms k).2 i)) ms else fi (isF (orb ms (gt ms k).2 i)) ms - 1) = (if fi (isF (orb ms (gt ms k).2 j)) ms < k then fi (isF (orb ms (gt ms k).2 j)) ms else fi (isF (orb ms (gt ms k).2 j)) ms - 1) := eq
    split at e' <;> split at e' <;> omega
  have ho : orb ms (gt ms k).2 i = orb ms (gt ms k).2 j := by rw [← h3, ← h4, he]
  have hd : orb ms (gt ms k).2 (i + (ms.length - j)) = (gt ms k).1 := by
    rw [orb_add, ho, ← orb_add, show j + (ms.length - j) = ms.length by omega]; exact e
  exact h _ (by omega) hd
/-- The first loop's place, and the second one's. -/
def OkM1 (ms : List ElMove) (k : Nat) : Prop := hvB (gt ms k).1 = true ∧ hvB (gt ms k).2 = true ∧ (gt ms k).1 ≠ (gt ms k).2 ∧ ∀ j, j < k → (gt ms j).1 ≠ (gt ms k).1
theorem OkM.one {ms : List ElMove} {k : Nat} (h : OkM ms k) : OkM1 ms k := ⟨h.1, h.2.1, fun e => h.2.2.2 0 (by omega) e.symm, h.2.2.1⟩
theorem OkM.circ {ms : List ElMove} {k : Nat} (h : OkM ms k) : circB ms (gt ms k) = false := circB_no fun i hi => h.2.2.2 i (by omega)
theorem OkM.of {ms : List ElMove} {k : Nat} (hk : k < ms.length) (h : OkM1 ms k) (hc : circB ms (gt ms k) = false) : OkM ms k :=
  ⟨h.1, h.2.1, h.2.2.2, orb_full hk fun i hi e => by rw [circB_at hi e] at hc; cases hc⟩
theorem fromIx_at {ms : List ElMove} {h : ElHandle} {k : Nat} (hk : k < ms.length) (hn : ∀ j, j < k → isF h (gt ms j) = false) (hq : isF h (gt ms k) = true) : fromIx ms h = k := ix_at hk hn hq
theorem fromIx_none {ms : List ElMove} {h : ElHandle} (hn : ∀ j, j < ms.length → isF h (gt ms j) = false) : fromIx ms h = -1 := ix_none hn
/-- The step by the number. -/
theorem nextH_ix {ms : List ElMove} {h : ElHandle} {k : Nat} (hk : k < ms.length) (e : fromIx ms h = k) : nextH ms h = (gt ms k).2 := by
  unfold fromIx ix at e
  unfold nextH
  split at e
  · next q => rw [if_pos q, show fi (isF h) ms = k by omega]
  · omega
theorem nextH_no {ms : List ElMove} {h : ElHandle} (e : fromIx ms h < 0) : nextH ms h = h := by
  unfold fromIx ix at e
  unfold nextH
  split at e
  · omega
  · next q => rw [if_neg q]
end Go.Proofs.Ytdcppbaahoimfaa
