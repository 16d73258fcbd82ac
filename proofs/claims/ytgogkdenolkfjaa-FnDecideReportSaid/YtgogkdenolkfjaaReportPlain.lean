/- Plain laws of reports: no program in sight. -/
import Derived.Test.YtgogkdenolkfjaaKeyed
import Derived.Test.YtgogkdenolkfjaaReport
import Derived.Test.YtgogkdenolkfjaaWords
namespace Go.Proofs.Ytgogkdenolkfjaa
/-- Is the place in order? -/
def OkR (rs : List ElReport) (k : Nat) : Prop := wordB (gt rs k).1 = true ∧ inB (gt rs k).2.1 1 1000 = true ∧ ∀ j, j < k → (gt rs j).1 ≠ (gt rs k).1
instance (rs : List ElReport) (k : Nat) : Decidable (OkR rs k) := inferInstanceAs (Decidable (_ ∧ _ ∧ ∀ j, j < k → (gt rs j).1 ≠ (gt rs k).1))
def rvB (rs : List ElReport) : Bool := vdB OkR 8 rs
theorem inB_iff {n lo hi : Int} : inB n lo hi = true ↔ lo ≤ n ∧ n ≤ hi := by simp [inB]
theorem rv_len {rs : List ElReport} (h : rvB rs = true) : rs.length ≤ 8 := (Vd.of h).1
theorem rv_word {rs : List ElReport} (h : rvB rs = true) {k : Nat} (hk : k < rs.length) : wordB (gt rs k).1 = true := ((Vd.of h).2 k hk).1
theorem rv_many {rs : List ElReport} (h : rvB rs = true) {k : Nat} (hk : k < rs.length) : 1 ≤ (gt rs k).2.1 ∧ (gt rs k).2.1 ≤ 1000 := inB_iff.1 ((Vd.of h).2 k hk).2.1
theorem rv_dis {rs : List ElReport} (h : rvB rs = true) {j k : Nat} (hj : j < rs.length) (hk : k < rs.length) (e : (gt rs j).1 = (gt rs k).1) : j = k := by
  rcases Nat.lt_trichotomy j k with h1 | h1 | h1
  · exact absurd e (((Vd.of h).2 k hk).2.2 j h1)
  · exact h1
  · exact absurd e.symm (((Vd.of h).2 j hj).2.2 k h1)
/-- Is it of this word? -/
def isR (what : ByteArray) (r : ElReport) : Bool := seq r.1 what
def reportIx (rs : List ElReport) (what : ByteArray) : Int := ix (isR what) rs
/-- One more of a report. -/
def more1 (r : ElReport) : ElReport := (r.1, r.2.1 + 1, r.2.2)
/-- With one more of a word. -/
def addR (rs : List ElReport) (what : ByteArray) : List ElReport := if reportIx rs what < 0 then rs ++ [(what, 1, false)] else rs.set (reportIx rs what).toNat (more1 (gt rs (reportIx rs what).toNat))
def addOf (rs : List ElReport) (what : ByteArray) : List ElReport := if rvB rs = true then (if rvB (addR rs what) = true then addR rs what else rs) else []
def addOk (rs : List ElReport) (what : ByteArray) : Bool := rvB rs && rvB (addR rs what)
theorem addR_new {rs : List ElReport} {what : ByteArray} (h : reportIx rs what = -1) : addR rs what = rs ++ [(what, 1, false)] := if_pos (by omega)
theorem addR_old {rs : List ElReport} {what : ByteArray} {k : Nat} (h : reportIx rs what = k) : addR rs what = rs.set k (more1 (gt rs k)) := by
  unfold addR; rw [if_neg (by omega), h]; simp
theorem addR_len (rs : List ElReport) (what : ByteArray) : (addR rs what).length ≤ rs.length + 1 := by unfold addR; split <;> simp
theorem addOf_yes {rs : List ElReport} {what : ByteArray} (h : rvB rs = true) (k : rvB (addR rs what) = true) : addOf rs what = addR rs what ∧ addOk rs what = true := ⟨by rw [addOf, if_pos h, if_pos k], by rw [addOk, h, k]; rfl⟩
theorem addOf_no {rs : List ElReport} {what : ByteArray} (h : rvB rs = true) (k : rvB (addR rs what) = false) : addOf rs what = rs ∧ addOk rs what = false := ⟨by rw [addOf, if_pos h, if_neg (by rw [k]; simp)], by rw [addOk, h, k]; rfl⟩
theorem addOf_bad {rs : List ElReport} {what : ByteArray} (h : rvB rs = false) : addOf rs what = [] ∧ addOk rs what = false := ⟨by rw [addOf, if_neg (by rw [h]; simp)], by rw [addOk, h]; rfl⟩
theorem addOf_len (rs : List ElReport) (what : ByteArray) : (addOf rs what).length ≤ 8 := by
  unfold addOf
  split
  · next h =>
    split
    · next h2 => exact rv_len h2
    · exact rv_len h
  · simp
theorem addOk_true {rs : List ElReport} {what : ByteArray} (h : addOk rs what = true) : rvB rs = true ∧ rvB (addR rs what) = true ∧ addOf rs what = addR rs what := by
  rw [addOk, Bool.and_eq_true] at h
  exact ⟨h.1, h.2, (addOf_yes h.1 h.2).1⟩
theorem addOf_or {rs : List ElReport} {what : ByteArray} (h : addOk rs what = false) : addOf rs what = rs ∨ addOf rs what = [] := by
  unfold addOf
  by_cases h1 : rvB rs = true
  · rw [if_pos h1]
    by_cases h2 : rvB (addR rs what) = true
    · rw [addOk, h1, h2] at h; cases h
    · rw [if_neg h2]; exact .inl rfl
  · rw [if_neg h1]; exact .inr rfl
/-! ### The next one -/
/-- The number of the best one of the first k: -1 if there is none. -/
def bestTo (rs : List ElReport) : Nat → Int
  | 0 => -1
  | k + 1 => if (gt rs k).2.2 = false ∧ (bestTo rs k < 0 ∨ (gt rs (bestTo rs k).toNat).2.1 < (gt rs k).2.1) then k else bestTo rs k
theorem bestTo_rng (rs : List ElReport) (k : Nat) : -1 ≤ bestTo rs k ∧ bestTo rs k < k := by
  induction k with
  | zero => simp [bestTo]
  | succ k ih => rw [bestTo]; split <;> omega
theorem bestTo_done (rs : List ElReport) (k : Nat) (h : 0 ≤ bestTo rs k) : (gt rs (bestTo rs k).toNat).2.2 = false := by
  induction k with
  | zero => simp [bestTo] at h
  | succ k ih =>
    rw [bestTo] at h ⊢
    split
    · next hc => rw [Int.toNat_natCast]; exact hc.1
    · next hc => rw [if_neg hc] at h; exact ih h
theorem bestTo_max (rs : List ElReport) (k : Nat) : ∀ j, j < k → (gt rs j).2.2 = false → 0 ≤ bestTo rs k ∧ (gt rs j).2.1 ≤ (gt rs (bestTo rs k).toNat).2.1 := by
  induction k with
  | zero => intro j h; omega
  | succ k ih =>
    intro j hj hd
    rw [bestTo]
    split
    · next hc =>
      rw [Int.toNat_natCast]
      refine ⟨by omega, ?_⟩
      rcases Nat.lt_succ_iff_lt_or_eq.1 hj with h' | rfl
      · have := ih j h' hd
        rcases hc.2 with h2 | h2 <;> omega
      · omega
    · next hc =>
      rcases Nat.lt_succ_iff_lt_or_eq.1 hj with h' | rfl
      · exact ih j h' hd
      · have h3 : ¬ (bestTo rs j < 0 ∨ (gt rs (bestTo rs j).toNat).2.1 < (gt rs j).2.1) := fun h => hc ⟨hd, h⟩
        omega
/-- The word of the one with this number; none of -1. -/
def wordAt (rs : List ElReport) (i : Int) : ByteArray := if i < 0 then ByteArray.empty else (gt rs i.toNat).1
def manyAt (rs : List ElReport) (i : Int) : Int := if i < 0 then 0 else (gt rs i.toNat).2.1
def nextOf (rs : List ElReport) : ByteArray := if rvB rs = true then wordAt rs (bestTo rs rs.length) else ByteArray.empty
theorem wordAt_neg {rs : List ElReport} {i : Int} (h : i < 0) : wordAt rs i = ByteArray.empty := if_pos h
theorem wordAt_nat (rs : List ElReport) (k : Nat) : wordAt rs (k : Int) = (gt rs k).1 := by unfold wordAt; rw [if_neg (by omega), Int.toNat_natCast]
theorem nextOf_yes {rs : List ElReport} (h : rvB rs = true) : nextOf rs = wordAt rs (bestTo rs rs.length) := if_pos h
theorem nextOf_no {rs : List ElReport} (h : rvB rs = false) : nextOf rs = ByteArray.empty := if_neg (by rw [h]; simp)
theorem best_yes {rs : List ElReport} {k : Nat} (hd : (gt rs k).2.2 = false) (hm : manyAt rs (bestTo rs k) < (gt rs k).2.1) : bestTo rs (k + 1) = k := by
  have hc : bestTo rs k < 0 ∨ (gt rs (bestTo rs k).toNat).2.1 < (gt rs k).2.1 := by
    unfold manyAt at hm
    by_cases h0 : bestTo rs k < 0
    · exact .inl h0
    · rw [if_neg h0] at hm; exact .inr hm
  rw [bestTo, if_pos ⟨hd, hc⟩]
theorem best_no {rs : List ElReport} {k : Nat} (hv : rvB rs = true) (hk : k < rs.length) (h : (gt rs k).2.2 = true ∨ (gt rs k).2.1 ≤ manyAt rs (bestTo rs k)) : bestTo rs (k + 1) = bestTo rs k := by
  rw [bestTo, if_neg]
  rintro ⟨h1, h2⟩
  rcases h with h | h
  · rw [h1] at h; cases h
  · unfold manyAt at h
    have := rv_many hv hk
    by_cases h0 : bestTo rs k < 0
    · rw [if_pos h0] at h; omega
    · rw [if_neg h0] at h; rcases h2 with h2 | h2 <;> omega
theorem manyAt_rng {rs : List ElReport} (hv : rvB rs = true) {k : Nat} (hk : k ≤ rs.length) : 0 ≤ manyAt rs (bestTo rs k) ∧ manyAt rs (bestTo rs k) ≤ 1000 := by
  have := bestTo_rng rs k
  unfold manyAt
  split
  · omega
  · have := rv_many hv (k := (bestTo rs k).toNat) (by omega); omega
/-! ### Deciding -/
def done1 (r : ElReport) : ElReport := (r.1, r.2.1, true)
/-- Which one can be decided? -/
def canIx (rs : List ElReport) (what : ByteArray) : Int := if 0 ≤ reportIx rs what ∧ (gt rs (reportIx rs what).toNat).2.2 = false then reportIx rs what else -1
def decideOf (rs : List ElReport) (what : ByteArray) : List ElReport := if rvB rs = true then (if canIx rs what < 0 then rs else rs.set (canIx rs what).toNat (done1 (gt rs (canIx rs what).toNat))) else []
def decideOk (rs : List ElReport) (what : ByteArray) : Bool := rvB rs && decide (0 ≤ canIx rs what)
theorem decideOf_bad {rs : List ElReport} {what : ByteArray} (h : rvB rs = false) : decideOf rs what = [] ∧ decideOk rs what = false := ⟨by rw [decideOf, if_neg (by rw [h]; simp)], by rw [decideOk, h]; rfl⟩
theorem decideOf_no {rs : List ElReport} {what : ByteArray} (h : rvB rs = true) (k : canIx rs what = -1) : decideOf rs what = rs ∧ decideOk rs what = false := ⟨by rw [decideOf, if_pos h, if_pos (by omega)], by rw [decideOk, h, k]; rfl⟩
theorem decideOf_yes {rs : List ElReport} {what : ByteArray} {k : Nat} (h : rvB rs = true) (hk : canIx rs what = k) : decideOf rs what = rs.set k (done1 (gt rs k)) ∧ decideOk rs what = true := ⟨by rw [decideOf, if_pos h, if_neg (by omega), hk]; simp, by rw [decideOk, h, hk]; simp⟩
theorem decideOf_len (rs : List ElReport) (what : ByteArray) : (decideOf rs what).length ≤ 8 := by
  unfold decideOf
  split
  · next h => have := rv_len h; split <;> simp <;> omega
  · simp
theorem canIx_no {rs : List ElReport} {what : ByteArray} (h : reportIx rs what = -1) : canIx rs what = -1 := by unfold canIx; rw [if_neg (by omega)]
theorem canIx_done {rs : List ElReport} {what : ByteArray} {k : Nat} (h : reportIx rs what = k) (hd : (gt rs k).2.2 = true) : canIx rs what = -1 := by
  unfold canIx; rw [if_neg]; rintro ⟨_, h2⟩; rw [h, Int.toNat_natCast, hd] at h2; cases h2
theorem canIx_yes {rs : List ElReport} {what : ByteArray} {k : Nat} (h : reportIx rs what = k) (hd : (gt rs k).2.2 = false) : canIx rs what = k := by
  unfold canIx; rw [if_pos ⟨by omega, by rw [h, Int.toNat_natCast, hd]⟩, h]
end Go.Proofs.Ytgogkdenolkfjaa
