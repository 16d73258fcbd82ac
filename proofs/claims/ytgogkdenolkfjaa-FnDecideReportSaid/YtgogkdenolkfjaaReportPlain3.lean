/- Plain laws of reports, the third part: what the statements say. -/
import Derived.Test.YtgogkdenolkfjaaReportPlain2
namespace Go.Proofs.Ytgogkdenolkfjaa
/-- The number of the last one of a word that is not decided, as the statement looks for it. -/
def lm (rs : List ElReport) (s : ByteArray) : Nat → Int
  | 0 => 0
  | k + 1 => if seq (gt rs k).1 s = true ∧ (gt rs k).2.2 = false then (gt rs k).2.1 else lm rs s k
theorem lm_yes {rs : List ElReport} {s : ByteArray} {k : Nat} (h1 : seq (gt rs k).1 s = true) (h2 : (gt rs k).2.2 = false) : lm rs s (k + 1) = (gt rs k).2.1 := by rw [lm, if_pos ⟨h1, h2⟩]
theorem lm_no1 {rs : List ElReport} {s : ByteArray} {k : Nat} (h1 : seq (gt rs k).1 s = false) : lm rs s (k + 1) = lm rs s k := by rw [lm, if_neg (by rw [h1]; simp)]
theorem lm_no2 {rs : List ElReport} {s : ByteArray} {k : Nat} (h2 : (gt rs k).2.2 = true) : lm rs s (k + 1) = lm rs s k := by rw [lm, if_neg (by rw [h2]; simp)]
theorem lm_best {rs : List ElReport} (hv : rvB rs = true) {q : Nat} (hq : q < rs.length) (hd : (gt rs q).2.2 = false) : ∀ k, k ≤ rs.length → lm rs (gt rs q).1 k = if q < k then (gt rs q).2.1 else 0 := by
  intro k
  induction k with
  | zero => intro _; simp [lm]
  | succ k ih =>
    intro hk
    by_cases e : k = q
    · subst e
      rw [lm_yes (seq_self _) hd, if_pos (by omega)]
    · rw [lm_no1 (seq_false.2 (fun h => e (rv_dis hv (by omega) hq h))), ih (by omega)]
      by_cases h1 : q < k
      · rw [if_pos h1, if_pos (by omega)]
      · rw [if_neg h1, if_neg (by omega)]
/-- Nothing that is not decided is by more. -/
theorem next_max {rs : List ElReport} (hv : rvB rs = true) {k : Nat} (hk : k < rs.length) (hd : (gt rs k).2.2 = false) : (gt rs k).2.1 ≤ lm rs (nextOf rs) rs.length := by
  obtain ⟨h0, hm⟩ := bestTo_max rs rs.length k hk hd
  obtain ⟨q, hq⟩ := Int.eq_ofNat_of_zero_le h0
  have hr := bestTo_rng rs rs.length
  have hdq := bestTo_done rs rs.length h0
  rw [hq, Int.toNat_natCast] at hm hdq
  rw [nextOf_best hv hq, lm_best hv (by omega) hdq _ (Nat.le_refl _), if_pos (by omega)]
  exact hm
theorem empty_list : ByteArray.empty.toList = [] := by rw [ByteArray.toList_eq]; rfl
theorem wordB_empty : wordB ByteArray.empty = false := wordB_size (.inl (by decide))
/-- Either nothing is next, or it is by one at least. -/
theorem next_pos (rs : List ElReport) : (nextOf rs).toList.isEmpty = true ∨ ((nextOf rs).toList.isEmpty = false ∧ 0 < lm rs (nextOf rs) rs.length) := by
  by_cases hv : rvB rs = true
  · by_cases h0 : bestTo rs rs.length < 0
    · left; rw [nextOf_none hv h0, empty_list]; rfl
    · right
      obtain ⟨q, hq⟩ := Int.eq_ofNat_of_zero_le (show 0 ≤ bestTo rs rs.length by omega)
      have hr := bestTo_rng rs rs.length
      have hdq := bestTo_done rs rs.length (by omega)
      rw [hq, Int.toNat_natCast] at hdq
      have hql : q < rs.length := by omega
      have hm := rv_many hv hql
      refine ⟨?_, ?_⟩
      · rw [nextOf_best hv hq]
        cases he : (gt rs q).1.toList.isEmpty with
        | false => rfl
        | true =>
          have hw := rv_word hv hql
          have : (gt rs q).1 = ByteArray.empty := ba_list.1 (by rw [List.isEmpty_iff.1 he, empty_list])
          rw [this, wordB_empty] at hw; cases hw
      · rw [nextOf_best hv hq, lm_best hv hql hdq _ (Nat.le_refl _), if_pos hql]; omega
  · left; rw [nextOf_no (by simpa using hv), empty_list]; rfl
/-! ### Counting -/
/-- All numbers of the first k together. -/
def mTo (rs : List ElReport) (k : Nat) : Int := ((rs.take k).map (·.2.1)).sum
theorem mTo_zero (rs : List ElReport) : mTo rs 0 = 0 := rfl
theorem mTo_step {rs : List ElReport} {k : Nat} (h : k < rs.length) : mTo rs (k + 1) = mTo rs k + (gt rs k).2.1 := by
  unfold mTo; rw [take_snoc h, List.map_append, List.sum_append]; simp
theorem mTo_rng {rs : List ElReport} (hv : rvB rs = true) : ∀ k, k ≤ rs.length → 0 ≤ mTo rs k ∧ mTo rs k ≤ 1000 * k := by
  intro k
  induction k with
  | zero => intro _; simp [mTo_zero]
  | succ k ih =>
    intro hk
    have := ih (by omega)
    have := rv_many hv (show k < rs.length by omega)
    rw [mTo_step (by omega)]; omega
theorem mTo_left {rs ys : List ElReport} : ∀ k, k ≤ rs.length → mTo (rs ++ ys) k = mTo rs k := by
  intro k hk
  unfold mTo; rw [List.take_append_of_le_length hk]
theorem mTo_set {rs : List ElReport} {i : Nat} (hi : i < rs.length) (y : ElReport) : ∀ k, k ≤ rs.length → mTo (rs.set i y) k = mTo rs k + if i < k then y.2.1 - (gt rs i).2.1 else 0 := by
  intro k
  induction k with
  | zero => intro _; simp [mTo_zero]
  | succ k ih =>
    intro hk
    rw [mTo_step (by rw [List.length_set]; omega), mTo_step (show k < rs.length by omega), ih (by omega), gt_set hi]
    by_cases e : k = i
    · subst e; rw [if_pos rfl, if_neg (Nat.lt_irrefl _), if_pos (Nat.lt_succ_self _)]; omega
    · rw [if_neg e]
      by_cases h1 : i < k
      · rw [if_pos h1, if_pos (by omega)]; omega
      · rw [if_neg h1, if_neg (by omega)]; omega
/-- With one more of a word: one more altogether. -/
theorem mTo_addR (rs : List ElReport) (what : ByteArray) : mTo (addR rs what) (addR rs what).length - mTo rs rs.length = 1 := by
  rcases ix_two (rs := rs) (what := what) with hix | ⟨i, hi, hix⟩
  · rw [addR_new hix, List.length_append, List.length_singleton, mTo_step (by simp), mTo_left _ (Nat.le_refl _), gt_last]
    show mTo rs rs.length + 1 - mTo rs rs.length = 1
    omega
  · rw [addR_old hix, List.length_set, mTo_set hi _ _ (Nat.le_refl _), if_pos hi]
    show mTo rs rs.length + ((gt rs i).2.1 + 1 - (gt rs i).2.1) - mTo rs rs.length = 1
    omega
theorem addR_same {rs : List ElReport} {what : ByteArray} {k : Nat} (hk : k < rs.length) : (gt (addR rs what) k).1 = (gt rs k).1 ∧ (gt (addR rs what) k).2.2 = (gt rs k).2.2 := by
  rcases ix_two (rs := rs) (what := what) with hix | ⟨i, hi, hix⟩
  · rw [addR_new hix, gt_left hk]; exact ⟨rfl, rfl⟩
  · rw [addR_old hix, gt_set hi]
    split
    · next h => subst h; exact ⟨rfl, rfl⟩
    · exact ⟨rfl, rfl⟩
theorem addR_ge (rs : List ElReport) (what : ByteArray) : rs.length ≤ (addR rs what).length := by
  rcases ix_two (rs := rs) (what := what) with hix | ⟨i, hi, hix⟩
  · rw [addR_len1 hix]; omega
  · rw [addR_len0 hix]; exact Nat.le_refl _
/-! ### Deciding all -/
theorem rv_set {rs : List ElReport} (hv : rvB rs = true) {i : Nat} (hi : i < rs.length) : rvB (rs.set i (done1 (gt rs i))) = true := by
  obtain ⟨h1, h2⟩ := Vd.of hv
  have hw : ∀ j, (gt (rs.set i (done1 (gt rs i))) j).1 = (gt rs j).1 := fun j => by
    rw [gt_set hi]; split
    · next h => subst h; rfl
    · rfl
  have hm : ∀ j, (gt (rs.set i (done1 (gt rs i))) j).2.1 = (gt rs j).2.1 := fun j => by
    rw [gt_set hi]; split
    · next h => subst h; rfl
    · rfl
  refine vdB_true ⟨by rw [List.length_set]; exact h1, fun k hk => ?_⟩
  rw [List.length_set] at hk
  have := h2 k hk
  unfold OkR at this ⊢
  rw [hw, hm]
  exact ⟨this.1, this.2.1, fun j hj => by rw [hw]; exact this.2.2 j hj⟩
theorem decide_ok {rs : List ElReport} {what : ByteArray} (hv : rvB rs = true) : rvB (decideOf rs what) = true := by
  unfold decideOf
  rw [if_pos hv]
  split
  · exact hv
  · next hc =>
    obtain ⟨i, hi⟩ := Int.eq_ofNat_of_zero_le (show 0 ≤ canIx rs what by omega)
    have hlt : i < rs.length := by
      have := ix_hi (p := isR what) (xs := rs)
      unfold canIx reportIx at hi
      split at hi <;> omega
    rw [hi, Int.toNat_natCast]
    exact rv_set hv hlt
theorem can_lt {rs : List ElReport} {what : ByteArray} {i : Nat} (hi : canIx rs what = i) : i < rs.length ∧ reportIx rs what = i ∧ (gt rs i).2.2 = false := by
  unfold canIx at hi
  split at hi
  · next hc =>
    have := ix_hi (p := isR what) (xs := rs)
    unfold reportIx at hi hc ⊢
    rw [hi, Int.toNat_natCast] at hc
    exact ⟨by omega, hi, hc.2⟩
  · omega
theorem decideOk_at {rs : List ElReport} {what : ByteArray} (h : decideOk rs what = true) : rvB rs = true ∧ ∃ i, i < rs.length ∧ reportIx rs what = (i : Nat) ∧ (gt rs i).2.2 = false ∧ decideOf rs what = rs.set i (done1 (gt rs i)) := by
  rw [decideOk, Bool.and_eq_true, decide_eq_true_eq] at h
  obtain ⟨i, hi⟩ := Int.eq_ofNat_of_zero_le h.2
  obtain ⟨h1, h2, h3⟩ := can_lt hi
  exact ⟨h.1, i, h1, h2, h3, (decideOf_yes h.1 hi).1⟩
theorem decideOf_or {rs : List ElReport} {what : ByteArray} (h : decideOk rs what = false) : decideOf rs what = rs ∨ decideOf rs what = [] := by
  unfold decideOf
  by_cases h1 : rvB rs = true
  · rw [if_pos h1]
    rw [decideOk, h1, Bool.true_and, decide_eq_false_iff_not] at h
    rw [if_pos (by omega)]; exact .inl rfl
  · rw [if_neg h1]; exact .inr rfl
/-- How many are not decided. -/
def und (rs : List ElReport) : Nat := rs.countP (fun r => !r.2.2)
theorem und_le (rs : List ElReport) : und rs ≤ rs.length := List.countP_le_length
theorem und_set {rs : List ElReport} {i : Nat} (hi : i < rs.length) (hd : (gt rs i).2.2 = false) : und (rs.set i (done1 (gt rs i))) + 1 = und rs := by
  unfold und
  have hs : rs = rs.take i ++ (gt rs i :: rs.drop (i + 1)) := by
    have hd0 : rs.drop i = gt rs i :: rs.drop (i + 1) := by
      unfold gt; rw [List.getElem?_eq_getElem hi, Option.getD_some]; exact List.drop_eq_getElem_cons hi
    rw [← hd0, List.take_append_drop]
  rw [List.set_eq_take_append_cons_drop, if_pos hi]
  conv => rhs; rw [hs]
  rw [List.countP_append, List.countP_append, List.countP_cons, List.countP_cons, hd]
  simp [done1]
  omega
theorem und_zero {rs : List ElReport} (h : und rs = 0) : bestTo rs rs.length < 0 := by
  rcases Int.lt_or_le (bestTo rs rs.length) 0 with h0 | h0
  · exact h0
  · have hd := bestTo_done rs rs.length h0
    have hr := bestTo_rng rs rs.length
    have := List.countP_eq_zero.1 h _ (gt_mem (xs := rs) (k := (bestTo rs rs.length).toNat) (by omega))
    rw [hd] at this; simp at this
/-- Decided so often what is next. -/
def restTo (rs : List ElReport) : Nat → List ElReport
  | 0 => rs
  | j + 1 => decideOf (restTo rs j) (nextOf (restTo rs j))
theorem rest_ok {rs : List ElReport} (hv : rvB rs = true) : ∀ j, rvB (restTo rs j) = true := by
  intro j
  induction j with
  | zero => exact hv
  | succ j ih => exact decide_ok ih
theorem next_und {rs : List ElReport} (hv : rvB rs = true) (h : 0 < und rs) : und (decideOf rs (nextOf rs)) + 1 = und rs := by
  have hb : 0 ≤ bestTo rs rs.length := by
    obtain ⟨r, hr, hp⟩ := List.countP_pos_iff.1 h
    obtain ⟨k, hk, rfl⟩ := mem_gt hr
    exact (bestTo_max rs rs.length k hk (by simpa using hp)).1
  obtain ⟨q, hq⟩ := Int.eq_ofNat_of_zero_le hb
  have hr := bestTo_rng rs rs.length
  have hdq := bestTo_done rs rs.length hb
  rw [hq, Int.toNat_natCast] at hdq
  have hql : q < rs.length := by omega
  rw [nextOf_best hv hq, (decideOf_yes hv (can_at hv hql (isR_true.2 rfl) hdq)).1]
  exact und_set hql hdq
theorem rest_und {rs : List ElReport} (hv : rvB rs = true) : ∀ j, und (restTo rs j) + j ≤ rs.length ∨ und (restTo rs j) = 0 := by
  intro j
  induction j with
  | zero => exact .inl (und_le rs)
  | succ j ih =>
    rcases Nat.eq_zero_or_pos (und (restTo rs j)) with h0 | h0
    · right
      have hn := nextOf_none (rest_ok hv j) (und_zero h0)
      show und (decideOf (restTo rs j) (nextOf (restTo rs j))) = 0
      rw [hn]
      have : canIx (restTo rs j) ByteArray.empty = -1 := can_none (fun k hk he => by
        have hw := rv_word (rest_ok hv j) hk
        rw [isR_true.1 he, wordB_empty] at hw; cases hw)
      rw [(decideOf_no (rest_ok hv j) this).1]; exact h0
    · have := next_und (rest_ok hv j) h0
      rcases ih with ih | ih
      · left; show und (decideOf (restTo rs j) (nextOf (restTo rs j))) + (j + 1) ≤ rs.length; omega
      · omega
theorem rest_all {rs : List ElReport} (hv : rvB rs = true) : (nextOf (restTo rs rs.length)).toList.isEmpty = true := by
  have h0 : und (restTo rs rs.length) = 0 := by rcases rest_und hv rs.length with h | h <;> omega
  rw [nextOf_none (rest_ok hv _) (und_zero h0), empty_list]; rfl
theorem rest_sz {rs : List ElReport} (h : ∀ k, k < rs.length → (gt rs k).1.size ≤ maxLen) (hs : ∀ (xs : List ElReport) (what : ByteArray), (∀ k, k < xs.length → (gt xs k).1.size ≤ maxLen) → ∀ k, k < (decideOf xs what).length → (gt (decideOf xs what) k).1.size ≤ maxLen) : ∀ j k, k < (restTo rs j).length → (gt (restTo rs j) k).1.size ≤ maxLen := by
  intro j
  induction j with
  | zero => exact h
  | succ j ih => exact hs _ _ ih
theorem wordAt_sz {rs : List ElReport} (h : ∀ k, k < rs.length → (gt rs k).1.size ≤ maxLen) : (nextOf rs).size ≤ maxLen := by
  unfold nextOf wordAt
  have hr := bestTo_rng rs rs.length
  split
  · split
    · exact Nat.zero_le _
    · exact h _ (by omega)
  · exact Nat.zero_le _
/-- What was decided is not next. -/
theorem next_not {rs : List ElReport} {what : ByteArray} (h : decideOk rs what = true) : seq (nextOf (decideOf rs what)) what = false ∧ decideOk (decideOf rs what) what = false ∧ rvB (decideOf rs what) = true := by
  obtain ⟨hv, i, hi, hix, hd, he⟩ := decideOk_at h
  have hv2 := decide_ok (what := what) hv
  have hwi := isR_true.1 (ix_is hix).2
  have hgi : (gt (decideOf rs what) i).1 = what ∧ (gt (decideOf rs what) i).2.2 = true := by
    rw [he, gt_set hi, if_pos rfl]; exact ⟨hwi, rfl⟩
  have hil : i < (decideOf rs what).length := by rw [he, List.length_set]; exact hi
  refine ⟨seq_false.2 fun e => ?_, ?_, hv2⟩
  · by_cases h0 : bestTo (decideOf rs what) (decideOf rs what).length < 0
    · rw [nextOf_none hv2 h0] at e
      have := rv_word hv hi
      rw [hwi, ← e, wordB_empty] at this; cases this
    · obtain ⟨q, hq⟩ := Int.eq_ofNat_of_zero_le (show 0 ≤ bestTo (decideOf rs what) (decideOf rs what).length by omega)
      have hr := bestTo_rng (decideOf rs what) (decideOf rs what).length
      have hdq := bestTo_done _ _ (show 0 ≤ bestTo (decideOf rs what) (decideOf rs what).length by omega)
      rw [hq, Int.toNat_natCast] at hdq
      rw [nextOf_best hv2 hq] at e
      have := rv_dis hv2 (j := q) (k := i) (by omega) hil (by rw [e, hgi.1])
      rw [this, hgi.2] at hdq; cases hdq
  · rw [decideOk, hv2, Bool.true_and, decide_eq_false_iff_not]
    have : canIx (decideOf rs what) what = -1 := can_none (fun k hk hq => by
      have := rv_dis hv2 hk hil (by rw [isR_true.1 hq, hgi.1])
      rw [this, hgi.2])
    omega
end Go.Proofs.Ytgogkdenolkfjaa
