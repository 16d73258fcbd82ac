/- Plain laws of followers (lists of handles in order): no program in sight. -/
import Derived.Test.YtfnmlffpnmmcdaaHvPlain
namespace Go.Proofs.Ytfnmlffpnmmcdaa
/-- Is the text less? -/
def ltS (a b : ByteArray) : Bool := Op.bytesLess a.toList b.toList
theorem bl_irrefl : ∀ l : List UInt8, Op.bytesLess l l = false
  | [] => rfl
  | x :: l => by rw [Op.bytesLess, bl_irrefl l]; simp
theorem bl_trans : ∀ {a b c : List UInt8}, Op.bytesLess a b = true → Op.bytesLess b c = true → Op.bytesLess a c = true
  | _, [], _, h, _ => by simp [Op.bytesLess] at h
  | _, _ :: _, [], _, h => by simp [Op.bytesLess] at h
  | [], _ :: _, _ :: _, _, _ => rfl
  | x :: a, y :: b, z :: c, h, k => by
    simp only [Op.bytesLess, Bool.or_eq_true, Bool.and_eq_true, decide_eq_true_eq, beq_iff_eq] at h k ⊢
    rcases h with h | ⟨rfl, h⟩
    · rcases k with k | ⟨rfl, k⟩
      · exact .inl (UInt8.lt_trans h k)
      · exact .inl h
    · rcases k with k | ⟨rfl, k⟩
      · exact .inl k
      · exact .inr ⟨rfl, bl_trans h k⟩
theorem u8_tri (x y : UInt8) : x < y ∨ x = y ∨ y < x := by
  simp only [UInt8.lt_iff_toNat_lt]
  rcases Nat.lt_trichotomy x.toNat y.toNat with h | h | h
  · exact .inl h
  · exact .inr (.inl (UInt8.toNat_inj.1 h))
  · exact .inr (.inr h)
theorem bl_tri : ∀ a b : List UInt8, Op.bytesLess a b = true ∨ a = b ∨ Op.bytesLess b a = true
  | [], [] => .inr (.inl rfl)
  | [], _ :: _ => .inl rfl
  | _ :: _, [] => .inr (.inr rfl)
  | x :: a, y :: b => by
    simp only [Op.bytesLess, Bool.or_eq_true, Bool.and_eq_true, decide_eq_true_eq, beq_iff_eq]
    rcases u8_tri x y with h | rfl | h
    · exact .inl (.inl h)
    · rcases bl_tri a b with h | rfl | h
      · exact .inl (.inr ⟨rfl, h⟩)
      · exact .inr (.inl rfl)
      · exact .inr (.inr (.inr ⟨rfl, h⟩))
    · exact .inr (.inr (.inl h))
theorem ltS_irrefl (a : ByteArray) : ltS a a = false := bl_irrefl _
theorem ltS_trans {a b c : ByteArray} (h : ltS a b = true) (k : ltS b c = true) : ltS a c = true := bl_trans h k
theorem ltS_tri (a b : ByteArray) : ltS a b = true ∨ a = b ∨ ltS b a = true := by
  rcases bl_tri a.toList b.toList with h | h | h
  · exact .inl h
  · exact .inr (.inl (ba_list.1 h))
  · exact .inr (.inr h)
/-- Does p stand before q? -/
def BefH (p q : ElHandle) : Prop := ltS p.2 q.2 = true ∨ (p.2 = q.2 ∧ ltS p.1 q.1 = true)
instance (p q : ElHandle) : Decidable (BefH p q) := inferInstanceAs (Decidable (_ ∨ _))
def hbB (p q : ElHandle) : Bool := decide (BefH p q)
theorem hbB_true {p q : ElHandle} (h : BefH p q) : hbB p q = true := decide_eq_true h
theorem hbB_false {p q : ElHandle} (h : ¬ BefH p q) : hbB p q = false := decide_eq_false h
theorem BefH.of {p q : ElHandle} (h : hbB p q = true) : BefH p q := of_decide_eq_true h
theorem BefH.trans {p q r : ElHandle} (h : BefH p q) (k : BefH q r) : BefH p r := by
  unfold BefH at *
  rcases h with h | ⟨h1, h2⟩
  · rcases k with k | ⟨k1, k2⟩
    · exact .inl (ltS_trans h k)
    · exact .inl (by rw [← k1]; exact h)
  · rcases k with k | ⟨k1, k2⟩
    · exact .inl (by rw [h1]; exact k)
    · exact .inr ⟨h1.trans k1, ltS_trans h2 k2⟩
theorem BefH.irrefl {p : ElHandle} : ¬ BefH p p := by unfold BefH; rw [ltS_irrefl, ltS_irrefl]; simp
theorem BefH.asymm {p q : ElHandle} (h : BefH p q) : ¬ BefH q p := fun k => (h.trans k).irrefl
theorem befH_tri (p q : ElHandle) : BefH p q ∨ p = q ∨ BefH q p := by
  unfold BefH
  rcases ltS_tri p.2 q.2 with h | h | h
  · exact .inl (.inl h)
  · rcases ltS_tri p.1 q.1 with k | k | k
    · exact .inl (.inr ⟨h, k⟩)
    · exact .inr (.inl (Prod.ext k h))
    · exact .inr (.inr (.inr ⟨h.symm, k⟩))
  · exact .inr (.inr (.inl h))
/-- HandleBefore as the program asks it. -/
theorem hbB_ne {p q : ElHandle} (h : seq p.2 q.2 = false) : hbB p q = ltS p.2 q.2 := by
  have hn : p.2 ≠ q.2 := fun e => by rw [e] at h; simp [seq] at h
  cases hl : ltS p.2 q.2
  · exact hbB_false (fun k => by rcases k with k | ⟨k, _⟩; (rw [hl] at k; cases k); exact hn k)
  · exact hbB_true (.inl hl)
theorem hbB_eq {p q : ElHandle} (h : seq p.2 q.2 = true) : hbB p q = ltS p.1 q.1 := by
  have he : p.2 = q.2 := by simpa [seq] using h
  cases hl : ltS p.1 q.1
  · exact hbB_false (fun k => by
      rcases k with k | ⟨_, k⟩
      · rw [he, ltS_irrefl] at k; cases k
      · rw [hl] at k; cases k)
  · exact hbB_true (.inr ⟨he, hl⟩)
/-- Is the place in order? -/
def OkFh (p : ElHandle) : Prop := hvB p = true
def OkFAt (ps : List ElHandle) (k : Nat) : Prop := OkFh (gt ps k) ∧ (0 < k → BefH (gt ps (k - 1)) (gt ps k))
instance (p : ElHandle) : Decidable (OkFh p) := inferInstanceAs (Decidable (_ = _))
instance (ps : List ElHandle) (k : Nat) : Decidable (OkFAt ps k) := inferInstanceAs (Decidable (_ ∧ (_ → _)))
def okFUp (ps : List ElHandle) (k : Nat) : Prop := ∀ j, j < k → OkFAt ps j
instance (ps : List ElHandle) (k : Nat) : Decidable (okFUp ps k) := Nat.decidableBallLT k (fun j _ => OkFAt ps j)
def Fv (ps : List ElHandle) : Prop := ps.length ≤ 10 ∧ okFUp ps ps.length
instance (ps : List ElHandle) : Decidable (Fv ps) := inferInstanceAs (Decidable (_ ∧ _))
/-- Is the timeline valid? -/
def fvB (ps : List ElHandle) : Bool := decide (Fv ps)
theorem okFUp_succ {ps : List ElHandle} {k : Nat} (h : okFUp ps k) (h1 : OkFAt ps k) : okFUp ps (k + 1) := by
  intro j hj
  rcases Nat.lt_succ_iff_lt_or_eq.1 hj with h' | rfl
  · exact h j h'
  · exact h1
theorem fvB_true {ps : List ElHandle} (hl : ps.length ≤ 10) (h : okFUp ps ps.length) : fvB ps = true := decide_eq_true ⟨hl, h⟩
theorem fvB_long {ps : List ElHandle} (hl : 10 < ps.length) : fvB ps = false := decide_eq_false fun h => by have := h.1; omega
theorem fvB_bad {ps : List ElHandle} {k : Nat} (hk : k < ps.length) (h : ¬ OkFAt ps k) : fvB ps = false := decide_eq_false fun hv => h (hv.2 k hk)
theorem Fv.of {ps : List ElHandle} (h : fvB ps = true) : Fv ps := of_decide_eq_true h
theorem fvB_all {ps : List ElHandle} (h : okFUp ps ps.length) : decide ((ps.length : Int) ≤ 10) = fvB ps :=
  decide_eq_decide.2 ⟨fun hh => ⟨by omega, h⟩, fun hh => by have := hh.1; omega⟩
theorem Fv.sorted {ps : List ElHandle} (h : Fv ps) : ∀ j i, i < j → j < ps.length → BefH (gt ps i) (gt ps j) := by
  intro j
  induction j with
  | zero => intro i hi; omega
  | succ j ih =>
    intro i hi hj
    have h1 := (h.2 (j + 1) hj).2 (by omega)
    rw [Nat.add_sub_cancel] at h1
    rcases Nat.lt_succ_iff_lt_or_eq.1 hi with h2 | rfl
    · exact (ih i h2 (by omega)).trans h1
    · exact h1
/-- From the beginning, in order, in range. -/
theorem Fv.mk {ps : List ElHandle} (hl : ps.length ≤ 10) (h1 : ∀ p ∈ ps, OkFh p) (h2 : ∀ i j, i < j → j < ps.length → BefH (gt ps i) (gt ps j)) : Fv ps :=
  ⟨hl, fun j hj => ⟨h1 _ (gt_mem hj), fun h0 => h2 _ _ (by omega) hj⟩⟩
theorem Fv.ok {ps : List ElHandle} (h : Fv ps) {p : ElHandle} (hp : p ∈ ps) : OkFh p := by
  obtain ⟨k, hk, rfl⟩ := mem_gt hp
  exact (h.2 k hk).1
/-- How many stand before p at the beginning. -/
def posF (ps : List ElHandle) (p : ElHandle) : Nat := (ps.takeWhile (fun q => hbB q p)).length
theorem posF_eq : ∀ (ps : List ElHandle) (p : ElHandle) (k : Nat), k ≤ ps.length → (∀ j, j < k → hbB (gt ps j) p = true) → (k < ps.length → hbB (gt ps k) p = false) → posF ps p = k := by
  intro ps p
  induction ps with
  | nil => intro k h _ _; simp at h; subst h; rfl
  | cons q qs ih =>
    intro k hk h1 h2
    cases k with
    | zero =>
      have := h2 (by simp)
      rw [gt_head] at this
      simp [posF, this]
    | succ k =>
      have h0 := h1 0 (by omega)
      rw [gt_head] at h0
      have := ih k (by simpa using hk) (fun j hj => by have := h1 (j + 1) (by omega); rwa [gt_cons] at this) (fun hlt => by have := h2 (by simpa using hlt); rwa [gt_cons] at this)
      unfold posF at this ⊢
      rw [List.takeWhile_cons, if_pos h0, List.length_cons, this]
theorem posF_le (ps : List ElHandle) (p : ElHandle) : posF ps p ≤ ps.length := by unfold posF; exact (List.takeWhile_prefix _).length_le
theorem posF_before : ∀ (ps : List ElHandle) (p : ElHandle) (j : Nat), j < posF ps p → hbB (gt ps j) p = true := by
  intro ps p
  induction ps with
  | nil => intro j h; simp [posF] at h
  | cons q qs ih =>
    intro j h
    unfold posF at h
    rw [List.takeWhile_cons] at h
    by_cases h0 : hbB q p = true
    · rw [if_pos h0, List.length_cons] at h
      cases j with
      | zero => rw [gt_head]; exact h0
      | succ j => rw [gt_cons]; exact ih j (by unfold posF; omega)
    · rw [if_neg h0] at h; simp at h
theorem posF_stop : ∀ (ps : List ElHandle) (p : ElHandle), posF ps p < ps.length → hbB (gt ps (posF ps p)) p = false := by
  intro ps p
  induction ps with
  | nil => intro h; simp at h
  | cons q qs ih =>
    intro h
    unfold posF at h ⊢
    rw [List.takeWhile_cons] at h ⊢
    by_cases h0 : hbB q p = true
    · rw [if_pos h0] at h ⊢
      rw [List.length_cons, gt_cons]
      exact ih (by unfold posF; simpa using h)
    · rw [if_neg h0]
      rw [List.length_nil, gt_head]
      simpa using h0
/-- With p in its place. -/
def insF (ps : List ElHandle) (p : ElHandle) : List ElHandle := ps.take (posF ps p) ++ [p] ++ ps.drop (posF ps p)
theorem insF_len (ps : List ElHandle) (p : ElHandle) : (insF ps p).length = ps.length + 1 := by
  have := posF_le ps p
  simp only [insF, List.length_append, List.length_take, List.length_drop, List.length_cons, List.length_nil]
  omega
def folOf (ps : List ElHandle) (p : ElHandle) : List ElHandle := if fvB ps = true then (if fvB (insF ps p) = true then insF ps p else ps) else []
def folOk (ps : List ElHandle) (p : ElHandle) : Bool := fvB ps && fvB (insF ps p)
theorem folOf_yes {ps : List ElHandle} {p : ElHandle} (h : fvB ps = true) (k : fvB (insF ps p) = true) : folOf ps p = insF ps p ∧ folOk ps p = true := ⟨by rw [folOf, if_pos h, if_pos k], by rw [folOk, h, k]; rfl⟩
theorem folOf_no {ps : List ElHandle} {p : ElHandle} (h : fvB ps = true) (k : fvB (insF ps p) = false) : folOf ps p = ps ∧ folOk ps p = false := ⟨by rw [folOf, if_pos h, if_neg (by rw [k]; simp)], by rw [folOk, h, k]; rfl⟩
theorem folOf_bad {ps : List ElHandle} {p : ElHandle} (h : fvB ps = false) : folOf ps p = [] ∧ folOk ps p = false := ⟨by rw [folOf, if_neg (by rw [h]; simp)], by rw [folOk, h]; rfl⟩
theorem folOf_len (ps : List ElHandle) (p : ElHandle) : (folOf ps p).length ≤ 1048576 := by
  unfold folOf
  split
  · next h =>
    have := (Fv.of h).1
    split
    · rw [insF_len]; omega
    · omega
  · simp
theorem insF_sz {ps : List ElHandle} (h : ∀ k, k < ps.length → (gt ps k).1.size ≤ maxLen ∧ (gt ps k).2.size ≤ maxLen) {p : ElHandle} (hp : p.1.size ≤ maxLen ∧ p.2.size ≤ maxLen) : ∀ k, k < (insF ps p).length → (gt (insF ps p) k).1.size ≤ maxLen ∧ (gt (insF ps p) k).2.size ≤ maxLen := fun k hk => by
  have hm := gt_mem hk
  unfold insF at hm
  simp only [List.mem_append, List.mem_singleton] at hm
  rcases hm with (hm | hm) | hm
  · obtain ⟨j, hj, e⟩ := mem_gt (List.mem_of_mem_take hm); unfold insF; rw [← e]; exact h j hj
  · unfold insF; rw [hm]; exact hp
  · obtain ⟨j, hj, e⟩ := mem_gt (List.mem_of_mem_drop hm); unfold insF; rw [← e]; exact h j hj
end Go.Proofs.Ytfnmlffpnmmcdaa
