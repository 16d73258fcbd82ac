/- Plain laws of posts (lists of numbers): no program in sight. -/
namespace Go.Proofs.Ytfnmlffpnmmcdaa.PP
/-- The number at a place. -/
def at_ (xs : List Int) (k : Nat) : Int := xs[k]?.getD 0
theorem ext_at {xs ys : List Int} (hl : xs.length = ys.length) (h : ∀ j, j < xs.length → at_ xs j = at_ ys j) : xs = ys := by
  apply List.ext_getElem hl
  intro j h1 h2
  have := h j h1
  simpa [at_, h1, h2] using this
/-- Are two lists the same? -/
def eqB (xs ys : List Int) : Bool := decide (xs = ys)
theorem eqB_true {xs ys : List Int} (hl : xs.length = ys.length) (h : ∀ j, j < xs.length → at_ xs j = at_ ys j) : eqB xs ys = true := decide_eq_true (ext_at hl h)
theorem eqB_len {xs ys : List Int} (hl : xs.length ≠ ys.length) : eqB xs ys = false := decide_eq_false fun e => hl (by rw [e])
theorem eqB_at {xs ys : List Int} {j : Nat} (h : at_ xs j ≠ at_ ys j) : eqB xs ys = false := decide_eq_false fun e => h (by rw [e])
theorem eqB_self (xs : List Int) : eqB xs xs = true := decide_eq_true rfl
/-- The first k numbers answer earlier ones. -/
def okTo (xs : List Int) (k : Nat) : Prop := ∀ j, j < k → -1 ≤ at_ xs j ∧ at_ xs j ≤ (j : Int) - 1
def Pv (xs : List Int) : Prop := xs.length ≤ 16 ∧ okTo xs xs.length
instance (xs : List Int) (k : Nat) : Decidable (okTo xs k) := Nat.decidableBallLT k (fun j _ => -1 ≤ at_ xs j ∧ at_ xs j ≤ (j : Int) - 1)
instance (xs : List Int) : Decidable (Pv xs) := inferInstanceAs (Decidable (_ ∧ _))
/-- Are they valid? -/
def pvB (xs : List Int) : Bool := decide (Pv xs)
theorem okTo_succ {xs : List Int} {k : Nat} (h : okTo xs k) (h1 : -1 ≤ at_ xs k) (h2 : at_ xs k ≤ (k : Int) - 1) : okTo xs (k + 1) := by
  intro j hj
  rcases Nat.lt_succ_iff_lt_or_eq.1 hj with h' | rfl
  · exact h j h'
  · exact ⟨h1, h2⟩
theorem pvB_true {xs : List Int} (h : okTo xs xs.length) (hl : xs.length ≤ 16) : pvB xs = true := decide_eq_true ⟨hl, h⟩
theorem pvB_long {xs : List Int} (hl : 16 < xs.length) : pvB xs = false := decide_eq_false fun h => by have := h.1; omega
theorem pvB_bad {xs : List Int} {k : Nat} (hk : k < xs.length) (h : at_ xs k < -1 ∨ (k : Int) - 1 < at_ xs k) : pvB xs = false :=
  decide_eq_false fun hv => by have := hv.2 k hk; omega
theorem Pv.of {xs : List Int} (h : pvB xs = true) : Pv xs := of_decide_eq_true h
theorem Pv.lo {xs : List Int} (h : Pv xs) {k : Nat} (hk : k < xs.length) : -1 ≤ at_ xs k := (h.2 k hk).1
theorem Pv.hi {xs : List Int} (h : Pv xs) {k : Nat} (hk : k < xs.length) : at_ xs k ≤ (k : Int) - 1 := (h.2 k hk).2

/-- Where post n leads to, in f steps at most. -/
def climb (xs : List Int) : Nat → Nat → Nat
  | 0, n => n
  | f + 1, n => if 0 ≤ at_ xs n then climb xs f (at_ xs n).toNat else n
def depth (xs : List Int) : Nat → Nat → Nat
  | 0, _ => 0
  | f + 1, n => if 0 ≤ at_ xs n then depth xs f (at_ xs n).toNat + 1 else 0
theorem climb_fuel {xs : List Int} (h : Pv xs) : ∀ (f g n : Nat), n < xs.length → n < f → n < g → climb xs f n = climb xs g n := by
  intro f
  induction f with
  | zero => intro g n _ hf; omega
  | succ f ih =>
    intro g n hn hf hg
    obtain ⟨g, rfl⟩ : ∃ g', g = g' + 1 := ⟨g - 1, by omega⟩
    simp only [climb]
    by_cases h0 : 0 ≤ at_ xs n
    · have := h.hi hn
      simp only [if_pos h0]
      exact ih g _ (by omega) (by omega) (by omega)
    · simp only [if_neg h0]
theorem depth_fuel {xs : List Int} (h : Pv xs) : ∀ (f g n : Nat), n < xs.length → n < f → n < g → depth xs f n = depth xs g n := by
  intro f
  induction f with
  | zero => intro g n _ hf; omega
  | succ f ih =>
    intro g n hn hf hg
    obtain ⟨g, rfl⟩ : ∃ g', g = g' + 1 := ⟨g - 1, by omega⟩
    simp only [depth]
    by_cases h0 : 0 ≤ at_ xs n
    · have := h.hi hn
      simp only [if_pos h0]
      rw [ih g _ (by omega) (by omega) (by omega)]
    · simp only [if_neg h0]
def root (xs : List Int) (n : Nat) : Nat := climb xs (n + 1) n
def deep (xs : List Int) (n : Nat) : Nat := depth xs (n + 1) n
theorem root_up {xs : List Int} (h : Pv xs) {n : Nat} (hn : n < xs.length) (h0 : 0 ≤ at_ xs n) : root xs n = root xs (at_ xs n).toNat := by
  have := h.hi hn
  unfold root
  conv => lhs; rw [climb, if_pos h0]
  exact climb_fuel h _ _ _ (by omega) (by omega) (by omega)
theorem root_end {xs : List Int} {n : Nat} (h0 : at_ xs n < 0) : root xs n = n := by
  unfold root; rw [climb, if_neg (by omega)]
theorem deep_up {xs : List Int} (h : Pv xs) {n : Nat} (hn : n < xs.length) (h0 : 0 ≤ at_ xs n) : deep xs n = deep xs (at_ xs n).toNat + 1 := by
  have := h.hi hn
  unfold deep
  conv => lhs; rw [depth, if_pos h0]
  rw [depth_fuel h n ((at_ xs n).toNat + 1) _ (by omega) (by omega) (by omega)]
theorem deep_end {xs : List Int} {n : Nat} (h0 : at_ xs n < 0) : deep xs n = 0 := by
  unfold deep; rw [depth, if_neg (by omega)]
theorem deep_le {xs : List Int} (h : Pv xs) : ∀ (f n : Nat), n < xs.length → depth xs f n ≤ n := by
  intro f
  induction f with
  | zero => intro n _; simp [depth]
  | succ f ih =>
    intro n hn
    rw [depth]
    by_cases h0 : 0 ≤ at_ xs n
    · have := h.hi hn
      have := ih (at_ xs n).toNat (by omega)
      rw [if_pos h0]; omega
    · rw [if_neg h0]; omega
theorem root_lt {xs : List Int} (h : Pv xs) : ∀ n, n < xs.length → root xs n < xs.length ∧ at_ xs (root xs n) = -1 := by
  intro n
  induction n using Nat.strongRecOn with
  | ind n ih =>
    intro hn
    by_cases h0 : 0 ≤ at_ xs n
    · have := h.hi hn
      rw [root_up h hn h0]
      exact ih _ (by omega) (by omega)
    · have := h.lo hn
      rw [root_end (by omega)]
      exact ⟨hn, by omega⟩
/-- RootOf's answer. -/
def rootOf (xs : List Int) (n : Int) : Int := if pvB xs = true ∧ 0 ≤ n ∧ n < xs.length then (root xs n.toNat : Int) else -1
def depthOf (xs : List Int) (n : Int) : Int := if pvB xs = true ∧ 0 ≤ n ∧ n < xs.length then (deep xs n.toNat : Int) else -1
theorem rootOf_yes {xs : List Int} {n : Nat} (h : pvB xs = true) (hn : n < xs.length) : rootOf xs n = root xs n := by
  unfold rootOf; rw [if_pos ⟨h, by omega, by omega⟩]; simp
theorem rootOf_no {xs : List Int} {n : Int} (h : pvB xs = false ∨ n < 0 ∨ (xs.length : Int) ≤ n) : rootOf xs n = -1 := by
  unfold rootOf; rw [if_neg]; rintro ⟨h1, h2, h3⟩; rcases h with h | h | h
  · rw [h] at h1; cases h1
  · omega
  · omega
theorem depthOf_yes {xs : List Int} {n : Nat} (h : pvB xs = true) (hn : n < xs.length) : depthOf xs n = deep xs n := by
  unfold depthOf; rw [if_pos ⟨h, by omega, by omega⟩]; simp
theorem depthOf_no {xs : List Int} {n : Int} (h : pvB xs = false ∨ n < 0 ∨ (xs.length : Int) ≤ n) : depthOf xs n = -1 := by
  unfold depthOf; rw [if_neg]; rintro ⟨h1, h2, h3⟩; rcases h with h | h | h
  · rw [h] at h1; cases h1
  · omega
  · omega

/-- The thread of post n in a list: n itself, and behind it the threads of its answers from m on; by fuel on both. -/
def thread (xs : List Int) : Nat → Nat → List Int
  | 0, _ => []
  | f + 1, n => (n : Int) :: ((List.range xs.length).drop (n + 1)).flatMap fun m => if at_ xs m = n then thread xs f m else []
/-- The answers' part, as far as m. -/
def answers (xs : List Int) (f n m : Nat) : List Int := ((List.range m).drop (n + 1)).flatMap fun m => if at_ xs m = n then thread xs f m else []
theorem thread_succ (xs : List Int) (f n : Nat) : thread xs (f + 1) n = (n : Int) :: answers xs f n xs.length := rfl
theorem answers_start (xs : List Int) (f n : Nat) : answers xs f n (n + 1) = [] := by
  unfold answers; rw [List.drop_eq_nil_of_le (by simp)]; rfl
theorem answers_step (xs : List Int) (f n m : Nat) (h : n < m) : answers xs f n (m + 1) = answers xs f n m ++ (if at_ xs m = n then thread xs f m else []) := by
  unfold answers
  rw [List.range_succ, List.drop_append_of_le_length (by simp; omega), List.flatMap_append]
  simp
/-- A bound on a thread's length. -/
def tb (xs : List Int) (n : Nat) : Nat := 2 ^ (xs.length - n - 1)
theorem answers_len (xs : List Int) (f n : Nat) (hf : ∀ m, n < m → m < xs.length → (thread xs f m).length ≤ tb xs m) : ∀ m, n < m → m ≤ xs.length → (answers xs f n m).length + 2 ^ (xs.length - m) ≤ tb xs n := by
  intro m
  induction m with
  | zero => intro h; omega
  | succ m ih =>
    intro h h2
    by_cases hm : m = n
    · subst hm
      rw [answers_start, tb]
      simp [show xs.length - (m + 1) = xs.length - m - 1 by omega]
    · have h3 := ih (by omega) (by omega)
      have h4 := hf m (by omega) (by omega)
      rw [answers_step xs f n m (by omega), List.length_append]
      have e : 2 ^ (xs.length - m) = 2 * 2 ^ (xs.length - (m + 1)) := by
        rw [show xs.length - m = (xs.length - (m + 1)) + 1 by omega, Nat.pow_succ]; omega
      have e2 : tb xs m = 2 ^ (xs.length - (m + 1)) := by rw [tb, show xs.length - m - 1 = xs.length - (m + 1) by omega]
      have h5 : (if at_ xs m = (n : Int) then thread xs f m else []).length ≤ tb xs m := by split <;> simp_all
      omega
theorem thread_len (xs : List Int) : ∀ (f n : Nat), n < xs.length → (thread xs f n).length ≤ tb xs n := by
  intro f
  induction f with
  | zero => intro n _; simp [thread]
  | succ f ih =>
    intro n hn
    rw [thread_succ, List.length_cons]
    have := answers_len xs f n (fun m _ h => ih m h) xs.length hn (Nat.le_refl _)
    simpa using this
theorem answers_room (xs : List Int) (f n m : Nat) (h : n < m) (hm : m < xs.length) : (answers xs f n m).length + tb xs m + 1 ≤ tb xs n := by
  have := answers_len xs f n (fun m _ h => thread_len xs f m h) m h (by omega)
  have e : 2 ^ (xs.length - m) = 2 * tb xs m := by
    show 2 ^ (xs.length - m) = 2 * 2 ^ (xs.length - m - 1)
    rw [← Nat.pow_succ', show (xs.length - m - 1).succ = xs.length - m by omega]
  have : 0 < tb xs m := Nat.pow_pos (by omega)
  omega
theorem tb_pos (xs : List Int) (n : Nat) : 0 < tb xs n := Nat.pow_pos (by omega)
theorem tb_le {xs : List Int} (h : xs.length ≤ 16) (n : Nat) : tb xs n ≤ 32768 := by
  rw [tb]
  by_cases hz : xs.length - n - 1 ≤ 15
  · exact Nat.pow_le_pow_right (by omega) hz
  · omega
/-- ThreadOf's answer. -/
def threadOf (xs : List Int) (n : Int) : List Int := if pvB xs = true ∧ 0 ≤ n ∧ n < xs.length then thread xs xs.length n.toNat else []
theorem threadOf_yes {xs : List Int} {n : Nat} (h : pvB xs = true) (hn : n < xs.length) : threadOf xs n = thread xs xs.length n := by
  unfold threadOf; rw [if_pos ⟨h, by omega, by omega⟩]; simp
theorem threadOf_no {xs : List Int} {n : Int} (h : pvB xs = false ∨ n < 0 ∨ (xs.length : Int) ≤ n) : threadOf xs n = [] := by
  unfold threadOf; rw [if_neg]; rintro ⟨h1, h2, h3⟩; rcases h with h | h | h
  · rw [h] at h1; cases h1
  · omega
  · omega
/-- A greater fuel gives the same. -/
theorem thread_fuel (xs : List Int) : ∀ (f g n : Nat), xs.length ≤ n + f → xs.length ≤ n + g → n < xs.length → thread xs f n = thread xs g n := by
  intro f
  induction f with
  | zero => intro g n h; omega
  | succ f ih =>
    intro g n hf hg hn
    obtain ⟨g, rfl⟩ : ∃ g', g = g' + 1 := ⟨g - 1, by omega⟩
    rw [thread_succ, thread_succ]
    have : ∀ m, m ≤ xs.length → n < m → answers xs f n m = answers xs g n m := by
      intro m
      induction m with
      | zero => intro _ h; omega
      | succ m ihm =>
        intro h1 h2
        by_cases hm : m = n
        · subst hm; rw [answers_start, answers_start]
        · rw [answers_step _ _ _ _ (by omega), answers_step _ _ _ _ (by omega), ihm (by omega) (by omega), ih g m (by omega) (by omega) (by omega)]
    rw [this _ (Nat.le_refl _) hn]
/-- What post m answers when n is gone. -/
def dv (xs : List Int) (n m : Nat) : Int := if at_ xs m = n then at_ xs n else if (n : Int) < at_ xs m then at_ xs m - 1 else at_ xs m
def dropTo (xs : List Int) (n k : Nat) : List Int := ((List.range k).filter (fun m => decide (m ≠ n))).map (dv xs n)
theorem dropTo_zero (xs : List Int) (n : Nat) : dropTo xs n 0 = [] := rfl
theorem dropTo_skip (xs : List Int) (n : Nat) : dropTo xs n (n + 1) = dropTo xs n n := by
  simp [dropTo, List.range_succ, List.filter_append]
theorem dropTo_step (xs : List Int) {n m : Nat} (h : m ≠ n) {v : Int} (hv : dv xs n m = v) : dropTo xs n (m + 1) = dropTo xs n m ++ [v] := by
  simp [dropTo, List.range_succ, List.filter_append, h, hv]
theorem dropTo_len (xs : List Int) (n k : Nat) : (dropTo xs n k).length ≤ k := by
  rw [dropTo, List.length_map]
  exact Nat.le_trans (List.length_filter_le _ _) (by simp)
def dropOf (xs : List Int) (n : Int) : List Int := if pvB xs = true ∧ 0 ≤ n ∧ n < xs.length then dropTo xs n.toNat xs.length else []
def dropOk (xs : List Int) (n : Int) : Bool := pvB xs && (decide (0 ≤ n) && decide (n < xs.length))
theorem dropOf_yes {xs : List Int} {n : Nat} (h : pvB xs = true) (hn : n < xs.length) : dropOf xs n = dropTo xs n xs.length ∧ dropOk xs n = true := by
  unfold dropOf dropOk; rw [if_pos ⟨h, by omega, by omega⟩]; simp [h, hn]
theorem dropOf_no {xs : List Int} {n : Int} (h : pvB xs = false ∨ n < 0 ∨ (xs.length : Int) ≤ n) : dropOf xs n = [] ∧ dropOk xs n = false := by
  refine ⟨?_, ?_⟩
  · unfold dropOf; rw [if_neg]; rintro ⟨h1, h2, h3⟩; rcases h with h | h | h
    · rw [h] at h1; cases h1
    · omega
    · omega
  · unfold dropOk; rcases h with h | h | h
    · simp [h]
    · simp [show ¬ 0 ≤ n by omega]
    · simp [show ¬ n < (xs.length : Int) by omega]
theorem dropOf_len (xs : List Int) (n : Int) : (dropOf xs n).length ≤ 1048576 := by
  unfold dropOf
  split
  · next h => have := dropTo_len xs n.toNat xs.length; have := (Pv.of h.1).1; omega
  · simp
end Go.Proofs.Ytfnmlffpnmmcdaa.PP
