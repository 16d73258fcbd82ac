/- Plain laws of WhereIs and AddMove. No program in sight. -/
import Derived.Test.YtdcppbaahoimfaaMovePlain
namespace Go.Proofs.Ytdcppbaahoimfaa
theorem mv_len {ms : List ElMove} (h : mvB ms = true) : ms.length ≤ 8 := (Vd.of h).1
theorem mv_ok {ms : List ElMove} (h : mvB ms = true) {k : Nat} (hk : k < ms.length) : OkM ms k := (Vd.of h).2 k hk
theorem mv_one {ms : List ElMove} (h : mvB ms = true) {j k : Nat} (hj : j < ms.length) (hk : k < ms.length) (e : (gt ms j).1 = (gt ms k).1) : j = k := by
  rcases Nat.lt_trichotomy j k with q | q | q
  · exact absurd e ((mv_ok h hk).2.2.1 j q)
  · exact q
  · exact absurd e.symm ((mv_ok h hj).2.2.1 k q)
theorem fromIx_neg {ms : List ElMove} {h : ElHandle} : fromIx ms h < 0 ↔ ms.length ≤ fi (isF h) ms := by
  unfold fromIx ix
  split
  · constructor
    · intro q; omega
    · intro q; omega
  · constructor
    · intro _; omega
    · intro _; omega
/-- Does it stay there? -/
def stk (ms : List ElMove) (h : ElHandle) : Prop := ms.length ≤ fi (isF h) ms
instance (ms : List ElMove) (h : ElHandle) : Decidable (stk ms h) := by unfold stk; infer_instance
theorem stk_next {ms : List ElMove} {h : ElHandle} (s : stk ms h) : nextH ms h = h := by
  unfold stk at s; unfold nextH; rw [if_neg (by omega)]
theorem stk_orb {ms : List ElMove} {h : ElHandle} (s : stk ms h) (d : Nat) : orb ms h d = h := orb_stuck (stk_next s) d
theorem stk_no {ms : List ElMove} {h : ElHandle} (s : stk ms h) {k : Nat} (hk : k < ms.length) : (gt ms k).1 ≠ h := by
  unfold stk at s
  have := fi_before (p := isF h) (xs := ms) (j := k) (by omega)
  exact isF_false.1 this
/-- Valid moves lead to an end. -/
theorem mv_end {ms : List ElMove} (hv : mvB ms = true) (h : ElHandle) : ∃ i, i ≤ ms.length ∧ stk ms (orb ms h i) := by
  apply Decidable.byContradiction
  intro hno
  have hmv : ∀ i, i ≤ ms.length → fi (isF (orb ms h i)) ms < ms.length := fun i hi => by
    rcases Nat.lt_or_ge (fi (isF (orb ms h i)) ms) ms.length with q | q
    · exact q
    · exact absurd ⟨i, hi, q⟩ hno
  obtain ⟨i, j, hij, hj, eq⟩ := pigeon ms.length (fun i => fi (isF (orb ms h i)) ms) hmv
  have h1 := fi_from (hmv i (by omega))
  have h2 := fi_from (hmv j hj)
  have eq' : fi (isF (orb ms h i)) ms = fi (isF (orb ms h j)) ms := eq
  have ho : orb ms h i = orb ms h j := by rw [← h1, ← h2, eq']
  have hk := mv_ok hv (hmv i (by omega))
  have hn : orb ms h (i + 1) = (gt ms (fi (isF (orb ms h i)) ms)).2 := by
    rw [orb_succ]; unfold nextH; rw [if_pos (hmv i (by omega))]
  refine hk.2.2.2 (j - i - 1) (by omega) ?_
  rw [← hn, ← orb_add, show i + 1 + (j - i - 1) = j by omega, ← ho, h1]
theorem mv_stk {ms : List ElMove} (hv : mvB ms = true) (h : ElHandle) : stk ms (orb ms h ms.length) := by
  obtain ⟨i, hi, s⟩ := mv_end hv h
  rw [show ms.length = i + (ms.length - i) by omega, orb_add, stk_orb s]
  exact s
theorem orb_enough {ms : List ElMove} {h : ElHandle} {k : Nat} (hk : k ≤ ms.length) (s : stk ms (orb ms h k)) : orb ms h ms.length = orb ms h k := by
  rw [show ms.length = k + (ms.length - k) by omega, orb_add, stk_orb s]
/-- One step more makes no difference. -/
theorem orb_next {ms : List ElMove} (hv : mvB ms = true) (h : ElHandle) : orb ms (nextH ms h) ms.length = orb ms h ms.length := by
  rw [show nextH ms h = orb ms h 1 from rfl, ← orb_add, Nat.add_comm 1, orb_succ, stk_next (mv_stk hv h)]
theorem orb_from {ms : List ElMove} (hv : mvB ms = true) (h : ElHandle) (i : Nat) : orb ms (orb ms h i) ms.length = orb ms h ms.length := by
  induction i with
  | zero => rfl
  | succ i ih => rw [orb_succ, orb_next hv, ih]
theorem next_valid {ms : List ElMove} (hv : mvB ms = true) {h : ElHandle} (hh : hvB h = true) : hvB (nextH ms h) = true := by
  unfold nextH
  split
  · next q => exact (mv_ok hv q).2.1
  · exact hh
theorem orb_valid {ms : List ElMove} (hv : mvB ms = true) {h : ElHandle} (hh : hvB h = true) (i : Nat) : hvB (orb ms h i) = true := by
  induction i with
  | zero => exact hh
  | succ i ih => rw [orb_succ]; exact next_valid hv ih
/-- WhereIs' answer. -/
def whereOf (ms : List ElMove) (h : ElHandle) : ElHandle := if (mvB ms && hvB h) = true then orb ms h ms.length else (ByteArray.empty, ByteArray.empty)
theorem whereOf_yes {ms : List ElMove} {h : ElHandle} (h1 : mvB ms = true) (h2 : hvB h = true) : whereOf ms h = orb ms h ms.length := if_pos (by rw [h1, h2]; rfl)
theorem whereOf_no1 {ms : List ElMove} {h : ElHandle} (h1 : mvB ms = false) : whereOf ms h = (ByteArray.empty, ByteArray.empty) := if_neg (by rw [h1]; simp)
theorem whereOf_no2 {ms : List ElMove} {h : ElHandle} (h1 : hvB h = false) : whereOf ms h = (ByteArray.empty, ByteArray.empty) := if_neg (by rw [h1]; simp)
theorem whereOf_step {ms : List ElMove} {h : ElHandle} (hv : mvB ms = true) (hh : hvB h = true) : whereOf ms (nextH ms h) = whereOf ms h := by
  rw [whereOf_yes hv hh, whereOf_yes hv (next_valid hv hh), orb_next hv]
theorem whereOf_valid {ms : List ElMove} {h : ElHandle} (hv : mvB ms = true) (hh : hvB h = true) : hvB (whereOf ms h) = true := by
  rw [whereOf_yes hv hh]; exact orb_valid hv hh _
theorem whereOf_stk {ms : List ElMove} {h : ElHandle} (hv : mvB ms = true) (hh : hvB h = true) : stk ms (whereOf ms h) := by
  rw [whereOf_yes hv hh]; exact mv_stk hv h
theorem whereOf_of_stk {ms : List ElMove} {h : ElHandle} (hv : mvB ms = true) (hh : hvB h = true) (s : stk ms h) : whereOf ms h = h := by
  rw [whereOf_yes hv hh, stk_orb s]
theorem whereOf_twice {ms : List ElMove} {h : ElHandle} (hv : mvB ms = true) (hh : hvB h = true) : whereOf ms (whereOf ms h) = whereOf ms h :=
  whereOf_of_stk hv (whereOf_valid hv hh) (whereOf_stk hv hh)
theorem next_at {ms : List ElMove} (hv : mvB ms = true) {k : Nat} (hk : k < ms.length) : nextH ms (gt ms k).1 = (gt ms k).2 := by
  refine nextH_ix hk (fromIx_at hk (fun j hj => isF_false.2 fun e => ?_) (isF_true.2 rfl))
  exact absurd (mv_one hv (by omega) hk e) (by omega)
theorem whereOf_to {ms : List ElMove} (hv : mvB ms = true) {k : Nat} (hk : k < ms.length) : whereOf ms (gt ms k).2 = whereOf ms (gt ms k).1 := by
  rw [← next_at hv hk, whereOf_step hv (mv_ok hv hk).1]
/-! ### One more -/
/-- AddMove's answer. -/
def addMOk (ms : List ElMove) (m : ElMove) : Bool := mvB ms && mvB (ms ++ [m])
def addMOf (ms : List ElMove) (m : ElMove) : List ElMove := if mvB ms = true then (if mvB (ms ++ [m]) = true then ms ++ [m] else ms) else []
theorem addMOf_bad {ms : List ElMove} {m : ElMove} (h : mvB ms = false) : addMOf ms m = [] := if_neg (by rw [h]; simp)
theorem addMOf_no {ms : List ElMove} {m : ElMove} (h : mvB ms = true) (h2 : mvB (ms ++ [m]) = false) : addMOf ms m = ms := by
  rw [addMOf, if_pos h, if_neg (by rw [h2]; simp)]
theorem addMOf_yes {ms : List ElMove} {m : ElMove} (h : mvB ms = true) (h2 : mvB (ms ++ [m]) = true) : addMOf ms m = ms ++ [m] := by
  rw [addMOf, if_pos h, if_pos h2]
theorem addMOk_bad {ms : List ElMove} {m : ElMove} (h : mvB ms = false) : addMOk ms m = false := by rw [addMOk, h]; rfl
theorem addMOk_no {ms : List ElMove} {m : ElMove} (h2 : mvB (ms ++ [m]) = false) : addMOk ms m = false := by rw [addMOk, h2, Bool.and_false]
theorem addMOk_yes {ms : List ElMove} {m : ElMove} (h : mvB ms = true) (h2 : mvB (ms ++ [m]) = true) : addMOk ms m = true := by rw [addMOk, h, h2]; rfl
theorem addMOk_of {ms : List ElMove} {m : ElMove} (h : addMOk ms m = true) : mvB ms = true ∧ mvB (ms ++ [m]) = true := by
  unfold addMOk at h; simpa using h
theorem addMOf_len (ms : List ElMove) (m : ElMove) : (addMOf ms m).length ≤ 8 := by
  unfold addMOf
  split
  · next h =>
    split
    · next h2 => exact mv_len h2
    · exact mv_len h
  · simp
theorem addMOf_valid (ms : List ElMove) (m : ElMove) (h : mvB ms = true) : mvB (addMOf ms m) = true := by
  unfold addMOf
  rw [if_pos h]
  split
  · next h2 => exact h2
  · exact h
theorem fi_app {ms : List ElMove} {m : ElMove} {h : ElHandle} (q : fi (isF h) ms < ms.length) : fi (isF h) (ms ++ [m]) = fi (isF h) ms := by
  refine fi_eq (by simp; omega) (fun j hj => ?_) (fun _ => ?_)
  · rw [gt_left (by omega)]; exact fi_before hj
  · rw [gt_left q]; exact fi_at q
theorem next_app {ms : List ElMove} {m : ElMove} {h : ElHandle} (q : fi (isF h) ms < ms.length) : nextH (ms ++ [m]) h = nextH ms h := by
  unfold nextH
  rw [fi_app q, if_pos q, if_pos (by simp; omega), gt_left q]
theorem next_last {ms : List ElMove} {m : ElMove} (hv : mvB (ms ++ [m]) = true) : nextH (ms ++ [m]) m.1 = m.2 := by
  have := next_at hv (k := ms.length) (by simp)
  rwa [gt_last] at this
theorem orb_app {ms : List ElMove} {m : ElMove} (hv : mvB (ms ++ [m]) = true) {h : ElHandle} (hm : mvB ms = true) (hh : hvB h = true) (i : Nat) : whereOf (ms ++ [m]) (orb ms h i) = whereOf (ms ++ [m]) h := by
  induction i with
  | zero => rfl
  | succ i ih =>
    rw [orb_succ, ← ih]
    have hq := orb_valid hm hh i
    generalize orb ms h i = g at *
    by_cases q : fi (isF g) ms < ms.length
    · rw [← next_app (m := m) q, whereOf_step hv hq]
    · rw [stk_next (show stk ms g by unfold stk; omega)]
theorem whereOf_app {ms : List ElMove} {m : ElMove} (hm : mvB ms = true) (hv : mvB (ms ++ [m]) = true) {h : ElHandle} (hh : hvB h = true) : whereOf (ms ++ [m]) (whereOf ms h) = whereOf (ms ++ [m]) h := by
  rw [whereOf_yes hm hh]; exact orb_app hv hm hh _
theorem mv_last {ms : List ElMove} {m : ElMove} (hv : mvB (ms ++ [m]) = true) : hvB m.1 = true ∧ hvB m.2 = true := by
  have := mv_ok hv (k := ms.length) (by simp)
  have h1 := this.1; have h2 := this.2.1
  rw [gt_last] at h1 h2
  exact ⟨h1, h2⟩
theorem where_last {ms : List ElMove} {m : ElMove} (hv : mvB (ms ++ [m]) = true) : whereOf (ms ++ [m]) m.1 = whereOf (ms ++ [m]) m.2 := by
  rw [← next_last hv, whereOf_step hv (mv_last hv).1]
theorem where_lead {ms : List ElMove} {m : ElMove} (hm : mvB ms = true) (hv : mvB (ms ++ [m]) = true) {h : ElHandle} (hh : hvB h = true) (e : whereOf ms h = m.1) : whereOf (ms ++ [m]) h = whereOf (ms ++ [m]) m.2 := by
  rw [← whereOf_app hm hv hh, e, where_last hv]
end Go.Proofs.Ytdcppbaahoimfaa
