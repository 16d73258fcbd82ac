/- Plain laws of tombs: no program in sight. -/
import Derived.Test.YtnplpllhochlfaaKeyed
import Derived.Test.YtnplpllhochlfaaTomb
import Derived.Test.YtnplpllhochlfaaWords
namespace Go.Proofs.Ytnplpllhochlfaa
/-- Is the place in order? -/
def OkT (ts : List ElTomb) (k : Nat) : Prop := wordB (gt ts k).1 = true ∧ inB (gt ts k).2 0 1000000000 = true ∧ (0 < k → (gt ts (k - 1)).2 ≤ (gt ts k).2) ∧ ∀ j, j < k → (gt ts j).1 ≠ (gt ts k).1
instance (ts : List ElTomb) (k : Nat) : Decidable (OkT ts k) := inferInstanceAs (Decidable (_ ∧ _ ∧ (_ → _) ∧ ∀ j, j < k → (gt ts j).1 ≠ (gt ts k).1))
def tmB (ts : List ElTomb) : Bool := vdB OkT 8 ts
theorem inB_iff {n lo hi : Int} : inB n lo hi = true ↔ lo ≤ n ∧ n ≤ hi := by simp [inB]
theorem tm_len {ts : List ElTomb} (h : tmB ts = true) : ts.length ≤ 8 := (Vd.of h).1
theorem tm_word {ts : List ElTomb} (h : tmB ts = true) {k : Nat} (hk : k < ts.length) : wordB (gt ts k).1 = true := ((Vd.of h).2 k hk).1
theorem tm_when {ts : List ElTomb} (h : tmB ts = true) {k : Nat} (hk : k < ts.length) : 0 ≤ (gt ts k).2 ∧ (gt ts k).2 ≤ 1000000000 := inB_iff.1 ((Vd.of h).2 k hk).2.1
theorem tm_dis {ts : List ElTomb} (h : tmB ts = true) {j k : Nat} (hj : j < ts.length) (hk : k < ts.length) (e : (gt ts j).1 = (gt ts k).1) : j = k := by
  rcases Nat.lt_trichotomy j k with h1 | h1 | h1
  · exact absurd e (((Vd.of h).2 k hk).2.2.2 j h1)
  · exact h1
  · exact absurd e.symm (((Vd.of h).2 j hj).2.2.2 k h1)
theorem tm_mono {ts : List ElTomb} (h : tmB ts = true) : ∀ {k j : Nat}, j ≤ k → k < ts.length → (gt ts j).2 ≤ (gt ts k).2 := by
  intro k
  induction k with
  | zero => intro j hj _; obtain rfl : j = 0 := by omega
            exact Int.le_refl _
  | succ k ih =>
    intro j hj hk
    rcases Nat.lt_succ_iff_lt_or_eq.1 (Nat.lt_succ_of_le hj) with h1 | rfl
    · have := ((Vd.of h).2 (k + 1) hk).2.2.1 (by omega)
      rw [Nat.add_sub_cancel] at this
      exact Int.le_trans (ih (by omega) (by omega)) this
    · exact Int.le_refl _
/-- Valid ones, told over the list as a whole. -/
def TmL (ts : List ElTomb) : Prop := ts.length ≤ 8 ∧ (∀ t ∈ ts, wordB t.1 = true ∧ 0 ≤ t.2 ∧ t.2 ≤ 1000000000) ∧ ts.Pairwise (fun a b => a.2 ≤ b.2 ∧ a.1 ≠ b.1)
theorem gt_get {α : Type} [Inhabited α] {xs : List α} {k : Nat} (h : k < xs.length) : gt xs k = xs[k] := by unfold gt; rw [List.getElem?_eq_getElem h]; rfl
theorem tmB_iff (ts : List ElTomb) : tmB ts = true ↔ TmL ts := by
  constructor
  · intro h
    refine ⟨tm_len h, fun t ht => ?_, List.pairwise_iff_getElem.2 fun i j hi hj hij => ?_⟩
    · obtain ⟨k, hk, rfl⟩ := mem_gt ht
      exact ⟨tm_word h hk, tm_when h hk⟩
    · rw [← gt_get hi, ← gt_get hj]
      exact ⟨tm_mono h (by omega) hj, fun e => by have := tm_dis h hi hj e; omega⟩
  · rintro ⟨h1, h2, h3⟩
    refine vdB_true ⟨h1, fun k hk => ⟨(h2 _ (gt_mem hk)).1, inB_iff.2 (h2 _ (gt_mem hk)).2, fun h0 => ?_, fun j hj => ?_⟩⟩
    · have := List.pairwise_iff_getElem.1 h3 (k - 1) k (by omega) hk (by omega)
      rw [← gt_get, ← gt_get] at this
      exact this.1
    · have := List.pairwise_iff_getElem.1 h3 j k (by omega) hk hj
      rw [← gt_get, ← gt_get] at this
      exact this.2
/-- Is it of this key? -/
def isT (key : ByteArray) (t : ElTomb) : Bool := seq t.1 key
def tombIx (ts : List ElTomb) (key : ByteArray) : Int := ix (isT key) ts
/-- IsBuried's answer. -/
def buriedB (ts : List ElTomb) (key : ByteArray) (now : Int) : Bool := tmB ts && (decide (0 ≤ tombIx ts key) && decide (now ≤ (gt ts (tombIx ts key).toNat).2 + 100))
theorem buriedB_bad {ts : List ElTomb} {key : ByteArray} {now : Int} (h : tmB ts = false) : buriedB ts key now = false := by rw [buriedB, h]; rfl
theorem buriedB_none {ts : List ElTomb} {key : ByteArray} {now : Int} (h : tombIx ts key = -1) : buriedB ts key now = false := by rw [buriedB, h]; simp
theorem buriedB_at {ts : List ElTomb} {key : ByteArray} {now : Int} {k : Nat} (hv : tmB ts = true) (h : tombIx ts key = k) : buriedB ts key now = decide (now ≤ (gt ts k).2 + 100) := by rw [buriedB, hv, h]; simp
/-! ### Burying -/
/-- The others of the first k. -/
def othTo (ts : List ElTomb) (key : ByteArray) (k : Nat) : List ElTomb := (ts.take k).filter (fun t => !seq t.1 key)
theorem othTo_zero (ts : List ElTomb) (key : ByteArray) : othTo ts key 0 = [] := rfl
theorem othTo_len (ts : List ElTomb) (key : ByteArray) (k : Nat) : (othTo ts key k).length ≤ k := by
  unfold othTo
  have := List.length_filter_le (fun t : ElTomb => !seq t.1 key) (ts.take k)
  simp only [List.length_take] at this
  omega
theorem othTo_is {ts : List ElTomb} {key : ByteArray} {k : Nat} (hk : k < ts.length) (h : seq (gt ts k).1 key = true) : othTo ts key (k + 1) = othTo ts key k := by
  unfold othTo; rw [take_snoc hk, List.filter_append]; simp [h]
theorem othTo_not {ts : List ElTomb} {key : ByteArray} {k : Nat} (hk : k < ts.length) (h : seq (gt ts k).1 key = false) : othTo ts key (k + 1) = othTo ts key k ++ [gt ts k] := by
  unfold othTo; rw [take_snoc hk, List.filter_append]; simp [h]
/-- With the new one behind, and the first gone where there are too many. -/
def lastT (ts : List ElTomb) : List ElTomb := if 8 < ts.length then ts.drop 1 else ts
def newT (ts : List ElTomb) (key : ByteArray) (when : Int) : List ElTomb := lastT (othTo ts key ts.length ++ [(key, when)])
def canB (ts : List ElTomb) (key : ByteArray) (when : Int) : Bool := tmB ts && (wordB key && (inB when 0 1000000000 && (decide (ts.length = 0) || decide ((gt ts (ts.length - 1)).2 ≤ when))))
def buryOf (ts : List ElTomb) (key : ByteArray) (when : Int) : List ElTomb := if canB ts key when = true then newT ts key when else []
theorem buryOf_len (ts : List ElTomb) (key : ByteArray) (when : Int) : (buryOf ts key when).length ≤ 8 := by
  unfold buryOf
  split
  · next h =>
    have hv : tmB ts = true := by rw [canB, Bool.and_eq_true] at h; exact h.1
    have := tm_len hv
    have := othTo_len ts key ts.length
    unfold newT lastT
    split <;> simp at * <;> omega
  · simp
end Go.Proofs.Ytnplpllhochlfaa
