/- Plain laws of posts, the second part: beginnings, threads' members, dropped posts. No program in sight. -/
import Derived.Test.YtnaiopbealnpmaaPostsPlain
namespace Go.Proofs.Ytnaiopbealnpmaa.PP
theorem pvB_more (xs : List Int) : pvB (xs ++ [(xs.length : Int)]) = false := by
  refine pvB_bad (k := xs.length) (by simp) (.inr ?_)
  simp [at_]; omega
theorem at_take {xs : List Int} {k j : Nat} (h : j < k) : at_ (xs.take k) j = at_ xs j := by
  unfold at_; rw [List.getElem?_take, if_pos h]
theorem pvB_take {xs : List Int} (h : pvB xs = true) (k : Nat) : pvB (xs.take k) = true := by
  have hv := Pv.of h
  refine pvB_true (fun j hj => ?_) (by have := hv.1; simp; omega)
  simp only [List.length_take] at hj
  rw [at_take (by omega)]
  exact hv.2 j (by omega)
theorem rootOf_idem {xs : List Int} {n : Int} (h : 0 ≤ rootOf xs n) : ∃ m r : Nat, n = m ∧ m < xs.length ∧ pvB xs = true ∧ rootOf xs n = r ∧ r < xs.length ∧ at_ xs r = -1 ∧ rootOf xs r = r ∧ (0 ≤ at_ xs m → rootOf xs (at_ xs m) = r) := by
  by_cases hh : pvB xs = true ∧ 0 ≤ n ∧ n < xs.length
  · obtain ⟨hv, h0, h1⟩ := hh
    obtain ⟨m, rfl⟩ := Int.eq_ofNat_of_zero_le h0
    have hm : m < xs.length := by omega
    have hp := Pv.of hv
    obtain ⟨hr, hr1⟩ := root_lt hp m hm
    refine ⟨m, root xs m, rfl, hm, hv, rootOf_yes hv hm, hr, hr1, ?_, fun hat => ?_⟩
    · rw [rootOf_yes hv hr, root_end (by omega)]
    · have hlt := hp.hi hm
      obtain ⟨j, hj⟩ := Int.eq_ofNat_of_zero_le hat
      rw [hj, rootOf_yes hv (by omega), root_up hp hm hat, hj]; rfl
  · have : rootOf xs n = -1 := by unfold rootOf; rw [if_neg hh]
    omega
theorem depthOf_up {xs : List Int} {n : Int} (h : 0 ≤ depthOf xs n) : ∃ m : Nat, n = m ∧ m < xs.length ∧ -1 ≤ at_ xs m ∧ ((depthOf xs n = 0 ∧ at_ xs m = -1) ∨ (1 ≤ depthOf xs n ∧ 0 ≤ at_ xs m ∧ depthOf xs (at_ xs m) = depthOf xs n - 1)) := by
  by_cases hh : pvB xs = true ∧ 0 ≤ n ∧ n < xs.length
  · obtain ⟨hv, h0, h1⟩ := hh
    obtain ⟨m, rfl⟩ := Int.eq_ofNat_of_zero_le h0
    have hm : m < xs.length := by omega
    have hp := Pv.of hv
    have hlo := hp.lo hm
    have hhi := hp.hi hm
    refine ⟨m, rfl, hm, hlo, ?_⟩
    by_cases hat : 0 ≤ at_ xs m
    · right
      obtain ⟨j, hj⟩ := Int.eq_ofNat_of_zero_le hat
      have e : depthOf xs m = (deep xs j : Int) + 1 := by rw [depthOf_yes hv hm, deep_up hp hm hat, hj]; simp
      refine ⟨by omega, hat, ?_⟩
      rw [e, hj, depthOf_yes hv (by omega)]; omega
    · left
      exact ⟨by rw [depthOf_yes hv hm, deep_end (by omega)]; rfl, by omega⟩
  · have : depthOf xs n = -1 := by unfold depthOf; rw [if_neg hh]
    omega

/-! ### Threads' members -/
def hits (xs : List Int) (n : Nat) : Nat → Nat → Prop
  | 0, _ => False
  | f + 1, m => m = n ∨ (0 ≤ at_ xs m ∧ hits xs n f (at_ xs m).toNat)
def hit (xs : List Int) (n m : Nat) : Prop := hits xs n (m + 1) m
theorem hits_fuel {xs : List Int} (h : Pv xs) (n : Nat) : ∀ (f g m : Nat), m < xs.length → m < f → m < g → (hits xs n f m ↔ hits xs n g m) := by
  intro f
  induction f with
  | zero => intro g m _ hf; omega
  | succ f ih =>
    intro g m hm hf hg
    obtain ⟨g, rfl⟩ : ∃ g', g = g' + 1 := ⟨g - 1, by omega⟩
    simp only [hits]
    by_cases h0 : 0 ≤ at_ xs m
    · have := h.hi hm
      rw [ih g _ (by omega) (by omega) (by omega)]
    · simp [h0]
theorem hit_iff {xs : List Int} (h : Pv xs) {n m : Nat} (hm : m < xs.length) : hit xs n m ↔ m = n ∨ (0 ≤ at_ xs m ∧ hit xs n (at_ xs m).toNat) := by
  unfold hit
  conv => lhs; rw [hits]
  by_cases h0 : 0 ≤ at_ xs m
  · have := h.hi hm
    rw [hits_fuel h n m ((at_ xs m).toNat + 1) _ (by omega) (by omega) (by omega)]
  · simp [h0]
theorem hit_le {xs : List Int} (h : Pv xs) {n : Nat} : ∀ m, m < xs.length → hit xs n m → n ≤ m := by
  intro m
  induction m using Nat.strongRecOn with
  | ind m ih =>
    intro hm hh
    rcases (hit_iff h hm).1 hh with rfl | ⟨h0, hh⟩
    · exact Nat.le_refl _
    · have := h.hi hm
      have := ih _ (by omega) (by omega) hh
      omega
theorem hit_child {xs : List Int} (h : Pv xs) {n : Nat} : ∀ m, m < xs.length → (hit xs n m ↔ m = n ∨ ∃ k, n < k ∧ k < xs.length ∧ at_ xs k = n ∧ hit xs k m) := by
  intro m
  induction m using Nat.strongRecOn with
  | ind m ih =>
    intro hm
    constructor
    · intro hh
      rcases (hit_iff h hm).1 hh with rfl | ⟨h0, hh⟩
      · exact .inl rfl
      · right
        have hlt := h.hi hm
        rcases (ih _ (by omega) (by omega)).1 hh with he | ⟨k, h1, h2, h3, h4⟩
        · refine ⟨m, by omega, hm, by omega, (hit_iff h hm).2 (.inl rfl)⟩
        · exact ⟨k, h1, h2, h3, (hit_iff h hm).2 (.inr ⟨h0, h4⟩)⟩
    · rintro (rfl | ⟨k, h1, h2, h3, h4⟩)
      · exact (hit_iff h hm).2 (.inl rfl)
      · rcases (hit_iff h hm).1 h4 with rfl | ⟨h0, h5⟩
        · refine (hit_iff h hm).2 (.inr ⟨by omega, ?_⟩)
          rw [h3]
          exact (hit_iff h (by simp; omega)).2 (.inl (by simp))
        · have hlt := h.hi hm
          exact (hit_iff h hm).2 (.inr ⟨h0, (ih _ (by omega) (by omega)).2 (.inr ⟨k, h1, h2, h3, h5⟩)⟩)
theorem mem_answers {xs : List Int} {f n : Nat} {x : Int} : ∀ m, n < m → (x ∈ answers xs f n m ↔ ∃ k, n < k ∧ k < m ∧ at_ xs k = n ∧ x ∈ thread xs f k) := by
  intro m
  induction m with
  | zero => intro h; omega
  | succ m ih =>
    intro h
    by_cases hm : m = n
    · subst hm
      rw [answers_start]
      constructor
      · intro h; cases h
      · rintro ⟨k, h1, h2, _⟩; omega
    · rw [answers_step _ _ _ _ (by omega), List.mem_append, ih (by omega)]
      constructor
      · rintro (⟨k, h1, h2, h3⟩ | h1)
        · exact ⟨k, h1, by omega, h3⟩
        · by_cases he : at_ xs m = n
          · rw [if_pos he] at h1; exact ⟨m, by omega, by omega, he, h1⟩
          · rw [if_neg he] at h1; cases h1
      · rintro ⟨k, h1, h2, h3, h4⟩
        rcases Nat.lt_succ_iff_lt_or_eq.1 h2 with h5 | rfl
        · exact .inl ⟨k, h1, h5, h3, h4⟩
        · right; rw [if_pos h3]; exact h4
theorem mem_thread {xs : List Int} (h : Pv xs) : ∀ (f n : Nat), n < xs.length → xs.length ≤ n + f → ∀ x : Int, (x ∈ thread xs f n ↔ ∃ m : Nat, x = m ∧ m < xs.length ∧ hit xs n m) := by
  intro f
  induction f with
  | zero => intro n h1 h2; omega
  | succ f ih =>
    intro n hn hf x
    rw [thread_succ, List.mem_cons, mem_answers _ hn]
    constructor
    · rintro (rfl | ⟨k, h1, h2, h3, h4⟩)
      · exact ⟨n, rfl, hn, (hit_iff h hn).2 (.inl rfl)⟩
      · obtain ⟨m, rfl, hm, hh⟩ := (ih k h2 (by omega) x).1 h4
        exact ⟨m, rfl, hm, (hit_child h m hm).2 (.inr ⟨k, h1, h2, h3, hh⟩)⟩
    · rintro ⟨m, rfl, hm, hh⟩
      rcases (hit_child h m hm).1 hh with rfl | ⟨k, h1, h2, h3, h4⟩
      · exact .inl rfl
      · exact .inr ⟨k, h1, h2, h3, (ih k h2 (by omega) _).2 ⟨m, rfl, hm, h4⟩⟩
theorem hit_one {xs : List Int} (h : Pv xs) {n k1 k2 : Nat} (h1 : n < k1) (h2 : n < k2) (e1 : at_ xs k1 = n) (e2 : at_ xs k2 = n) : ∀ m, m < xs.length → hit xs k1 m → hit xs k2 m → k1 = k2 := by
  intro m
  induction m using Nat.strongRecOn with
  | ind m ih =>
    intro hm hh1 hh2
    have hlt := h.hi hm
    rcases (hit_iff h hm).1 hh1 with rfl | ⟨h0, hh1'⟩
    · rcases (hit_iff h hm).1 hh2 with rfl | ⟨h0, hh2'⟩
      · rfl
      · rw [e1] at hh2'
        have := hit_le h _ (by simp; omega) hh2'
        simp at this; omega
    · rcases (hit_iff h hm).1 hh2 with rfl | ⟨_, hh2'⟩
      · rw [e2] at hh1'
        have := hit_le h _ (by simp; omega) hh1'
        simp at this; omega
      · exact ih _ (by omega) (by omega) hh1' hh2'
theorem thread_nodup {xs : List Int} (h : Pv xs) : ∀ (f n : Nat), n < xs.length → xs.length ≤ n + f → (thread xs f n).Nodup := by
  intro f
  induction f with
  | zero => intro n h1 h2; omega
  | succ f ih =>
    intro n hn hf
    have hans : ∀ m, n < m → m ≤ xs.length → (answers xs f n m).Nodup := by
      intro m
      induction m with
      | zero => intro h; omega
      | succ m ihm =>
        intro h1 h2
        by_cases hm : m = n
        · subst hm; rw [answers_start]; exact List.nodup_nil
        · rw [answers_step _ _ _ _ (by omega)]
          by_cases he : at_ xs m = n
          · rw [if_pos he, List.nodup_append]
            refine ⟨ihm (by omega) (by omega), ih m (by omega) (by omega), fun a ha b hb => ?_⟩
            rintro rfl
            obtain ⟨k, k1, k2, k3, k4⟩ := (mem_answers m (by omega)).1 ha
            obtain ⟨p, rfl, hp, hh1⟩ := (mem_thread h f k (by omega) (by omega) _).1 k4
            obtain ⟨q, hq', hq, hh2⟩ := (mem_thread h f m (by omega) (by omega) _).1 hb
            have : p = q := by omega
            subst this
            have := hit_one h k1 (by omega : n < m) k3 he p hp hh1 hh2
            omega
          · rw [if_neg he, List.append_nil]; exact ihm (by omega) (by omega)
    rw [thread_succ, List.nodup_cons]
    refine ⟨fun hmem => ?_, hans _ hn (Nat.le_refl _)⟩
    obtain ⟨k, k1, k2, k3, k4⟩ := (mem_answers _ hn).1 hmem
    obtain ⟨p, hp', hp, hh⟩ := (mem_thread h f k k2 (by omega) _).1 k4
    have : p = n := by omega
    subst this
    have := hit_le h _ hp hh
    omega
/-- The members of a thread, as the law asks for them. -/
theorem thread_in {xs : List Int} (h : Pv xs) {n : Nat} (hn : n < xs.length) {k : Nat} (hk : k < xs.length) :
    (k : Int) ∈ thread xs xs.length n ↔ k = n ∨ (0 ≤ at_ xs k ∧ at_ xs k ∈ thread xs xs.length n) := by
  have e := mem_thread h xs.length n hn (by omega)
  rw [e, e]
  have hlt := h.hi hk
  constructor
  · rintro ⟨m, hm', hm, hh⟩
    obtain rfl : k = m := by omega
    rcases (hit_iff h hk).1 hh with rfl | ⟨h0, h1⟩
    · exact .inl rfl
    · exact .inr ⟨h0, (at_ xs k).toNat, by omega, by omega, h1⟩
  · rintro (rfl | ⟨h0, m, hm', hm, hh⟩)
    · exact ⟨k, rfl, hk, (hit_iff h hk).2 (.inl rfl)⟩
    · refine ⟨k, rfl, hk, (hit_iff h hk).2 (.inr ⟨h0, ?_⟩)⟩
      rw [hm']; exact hh
theorem thread_rng {xs : List Int} (h : Pv xs) {n : Nat} (hn : n < xs.length) {x : Int} (hx : x ∈ thread xs xs.length n) : 0 ≤ x ∧ x < xs.length := by
  obtain ⟨m, rfl, hm, _⟩ := (mem_thread h xs.length n hn (by omega) x).1 hx
  omega

/-! ### Dropped posts -/
def cnt (xs : List Int) (v : Int) (k : Nat) : Nat := ((List.range k).filter (fun m => decide (at_ xs m = v))).length
theorem cnt_zero (xs : List Int) (v : Int) : cnt xs v 0 = 0 := rfl
theorem cnt_yes {xs : List Int} {v : Int} {k : Nat} (h : at_ xs k = v) : cnt xs v (k + 1) = cnt xs v k + 1 := by
  simp [cnt, List.range_succ, List.filter_append, h]
theorem cnt_no {xs : List Int} {v : Int} {k : Nat} (h : at_ xs k ≠ v) : cnt xs v (k + 1) = cnt xs v k := by
  simp [cnt, List.range_succ, List.filter_append, h]
theorem cnt_le (xs : List Int) (v : Int) (k : Nat) : cnt xs v k ≤ k := by
  have := List.length_filter_le (fun m => decide (at_ xs m = v)) (List.range k)
  simpa [cnt] using this
theorem cnt_append (ys : List Int) (x v : Int) : cnt (ys ++ [x]) v (ys ++ [x]).length = cnt ys v ys.length + if x = v then 1 else 0 := by
  have hold : ∀ k, k ≤ ys.length → cnt (ys ++ [x]) v k = cnt ys v k := by
    intro k
    induction k with
    | zero => intro _; rfl
    | succ k ih =>
      intro hk
      have e : at_ (ys ++ [x]) k = at_ ys k := by unfold at_; rw [List.getElem?_append_left (by omega)]
      by_cases hv : at_ ys k = v
      · rw [cnt_yes (by rw [e]; exact hv), cnt_yes hv, ih (by omega)]
      · rw [cnt_no (by rw [e]; exact hv), cnt_no hv, ih (by omega)]
  have hx : at_ (ys ++ [x]) ys.length = x := by simp [at_]
  rw [List.length_append, show [x].length = 1 from rfl]
  by_cases hv : x = v
  · rw [cnt_yes (by rw [hx]; exact hv), hold _ (Nat.le_refl _), if_pos hv]
  · rw [cnt_no (by rw [hx]; exact hv), hold _ (Nat.le_refl _), if_neg hv]; rfl
theorem drop_cnt {xs : List Int} (h : Pv xs) {n : Nat} (hn : n < xs.length) : ∀ k, k ≤ xs.length →
    cnt (dropTo xs n k) (-1) (dropTo xs n k).length + (if n < k ∧ at_ xs n = -1 then 1 else 0) = cnt xs (-1) k + if at_ xs n = -1 then cnt xs n k else 0 := by
  intro k
  induction k with
  | zero => intro _; simp [dropTo_zero, cnt_zero]
  | succ k ih =>
    intro hk
    have h1 := ih (by omega)
    have hlo := h.lo (k := k) (by omega)
    have hhi := h.hi (k := k) (by omega)
    have hnlo := h.lo hn
    have hnhi := h.hi hn
    by_cases hkn : k = n
    · subst hkn
      rw [dropTo_skip, cnt_no (v := (k : Int)) (by omega)]
      by_cases ha : at_ xs k = -1
      · rw [cnt_yes ha]
        simp only [ha, and_true, if_true, Nat.lt_irrefl, if_false, Nat.lt_succ_self] at h1 ⊢
        omega
      · rw [cnt_no ha]
        simp only [ha, and_false, if_false] at h1 ⊢
        exact h1
    · have hdv : (dv xs n k = -1 ↔ at_ xs k = -1 ∨ (at_ xs k = n ∧ at_ xs n = -1)) := by
        unfold dv
        by_cases h2 : at_ xs k = n
        · rw [if_pos h2]; constructor
          · intro h3; exact .inr ⟨h2, h3⟩
          · rintro (h3 | ⟨_, h3⟩)
            · omega
            · exact h3
        · rw [if_neg h2]
          by_cases h3 : (n : Int) < at_ xs k
          · rw [if_pos h3]; constructor
            · intro h4; omega
            · rintro (h4 | ⟨h4, _⟩) <;> omega
          · rw [if_neg h3]; constructor
            · intro h4; exact .inl h4
            · rintro (h4 | ⟨h4, _⟩)
              · exact h4
              · exact absurd h4 h2
      rw [dropTo_step xs hkn rfl, cnt_append]
      have hif : (if n < k + 1 ∧ at_ xs n = -1 then 1 else 0) = (if n < k ∧ at_ xs n = -1 then 1 else 0) := by
        have : (n < k + 1) ↔ n < k := by omega
        simp only [this]
      rw [hif]
      by_cases h2 : at_ xs k = -1
      · rw [if_pos (hdv.2 (.inl h2)), cnt_yes h2, cnt_no (v := (n : Int)) (by omega)]; omega
      · rw [cnt_no h2]
        by_cases h3 : at_ xs k = n
        · rw [cnt_yes h3]
          by_cases h4 : at_ xs n = -1
          · rw [if_pos (hdv.2 (.inr ⟨h3, h4⟩))]; simp only [if_pos h4] at h1 ⊢; omega
          · rw [if_neg (fun hc => by rcases hdv.1 hc with h5 | ⟨_, h5⟩; exact h2 h5; exact h4 h5)]; simp only [if_neg h4] at h1 ⊢; omega
        · rw [cnt_no h3, if_neg (fun hc => by rcases hdv.1 hc with h5 | ⟨h5, _⟩; exact h2 h5; exact h3 h5)]; omega
theorem dropTo_at (xs : List Int) (n : Nat) : ∀ k, n < k → (dropTo xs n k).length = k - 1 ∧ ∀ j, j < k - 1 → at_ (dropTo xs n k) j = dv xs n (if j < n then j else j + 1) := by
  have hlow : ∀ k, k ≤ n → (dropTo xs n k).length = k ∧ ∀ j, j < k → at_ (dropTo xs n k) j = dv xs n j := by
    intro k
    induction k with
    | zero => intro _; exact ⟨rfl, fun j hj => by omega⟩
    | succ k ih =>
      intro hk
      obtain ⟨h1, h2⟩ := ih (by omega)
      rw [dropTo_step xs (by omega) rfl]
      refine ⟨by simp [h1], fun j hj => ?_⟩
      unfold at_ at h2 ⊢
      by_cases hjk : j < k
      · rw [List.getElem?_append_left (by omega)]; exact h2 j hjk
      · obtain rfl : j = k := by omega
        rw [List.getElem?_append_right (by omega), h1, Nat.sub_self]; rfl
  intro k
  induction k with
  | zero => intro h; omega
  | succ k ih =>
    intro hk
    by_cases hkn : k = n
    · subst hkn
      obtain ⟨h1, h2⟩ := hlow k (Nat.le_refl _)
      rw [dropTo_skip]
      exact ⟨by rw [h1]; rfl, fun j hj => by rw [if_pos (by omega)]; exact h2 j (by omega)⟩
    · obtain ⟨h1, h2⟩ := ih (by omega)
      rw [dropTo_step xs hkn rfl]
      refine ⟨by rw [List.length_append, h1]; simp; omega, fun j hj => ?_⟩
      unfold at_ at h2 ⊢
      by_cases hjk : j < k - 1
      · rw [List.getElem?_append_left (by omega)]; exact h2 j hjk
      · obtain rfl : j = k - 1 := by omega
        rw [List.getElem?_append_right (by omega), h1, Nat.sub_self, if_neg (by omega), show k - 1 + 1 = k by omega]; rfl
theorem drop_valid {xs : List Int} (h : Pv xs) {n : Nat} (hn : n < xs.length) : pvB (dropTo xs n xs.length) = true := by
  obtain ⟨h1, h2⟩ := dropTo_at xs n xs.length hn
  refine pvB_true (fun j hj => ?_) (by have := h.1; omega)
  rw [h1] at hj
  rw [h2 j hj]
  have hnlo := h.lo hn
  have hnhi := h.hi hn
  by_cases hjn : j < n
  · rw [if_pos hjn]
    have hlo := h.lo (k := j) (by omega)
    have hhi := h.hi (k := j) (by omega)
    unfold dv; rw [if_neg (by omega), if_neg (by omega)]; omega
  · rw [if_neg hjn]
    have hlo := h.lo (k := j + 1) (by omega)
    have hhi := h.hi (k := j + 1) (by omega)
    unfold dv
    by_cases h3 : at_ xs (j + 1) = n
    · rw [if_pos h3]; omega
    · rw [if_neg h3]
      by_cases h4 : (n : Int) < at_ xs (j + 1)
      · rw [if_pos h4]; omega
      · rw [if_neg h4]; omega
end Go.Proofs.Ytnaiopbealnpmaa.PP
