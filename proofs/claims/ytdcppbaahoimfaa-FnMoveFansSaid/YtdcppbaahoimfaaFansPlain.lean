/- Plain laws of MoveFans. No program in sight. -/
import Derived.Test.YtdcppbaahoimfaaMovePlain2
import Derived.Test.YtdcppbaahoimfaaFollowPlain
namespace Go.Proofs.Ytdcppbaahoimfaa
theorem fv_nil : fvB [] = true := fvB_true (by simp) (fun j hj => by simp at hj)
theorem folOf_valid {fs : List ElHandle} {h : ElHandle} (hv : fvB fs = true) : fvB (folOf fs h) = true := by
  unfold folOf
  rw [if_pos hv]
  split
  · next k => exact k
  · exact hv
theorem folOf_cases (fs : List ElHandle) (h : ElHandle) : folOf fs h = [] ∨ folOf fs h = fs ∨ folOf fs h = insF fs h := by
  unfold folOf
  split
  · split
    · exact .inr (.inr rfl)
    · exact .inr (.inl rfl)
  · exact .inl rfl
theorem insF_mem {fs : List ElHandle} {h x : ElHandle} (hx : x ∈ insF fs h) : x ∈ fs ∨ x = h := by
  unfold insF at hx
  simp only [List.mem_append, List.mem_singleton] at hx
  rcases hx with (hx | hx) | hx
  · exact .inl (List.mem_of_mem_take hx)
  · exact .inr hx
  · exact .inl (List.mem_of_mem_drop hx)
theorem folOf_mem {fs : List ElHandle} {h x : ElHandle} (hx : x ∈ folOf fs h) : x ∈ fs ∨ x = h := by
  rcases folOf_cases fs h with e | e | e
  · rw [e] at hx; cases hx
  · rw [e] at hx; exact .inl hx
  · rw [e] at hx; exact insF_mem hx
theorem folOf_len1 (fs : List ElHandle) (h : ElHandle) : (folOf fs h).length ≤ fs.length + 1 := by
  rcases folOf_cases fs h with e | e | e
  · rw [e]; simp
  · rw [e]; omega
  · rw [e, insF_len]; omega
theorem fv_one {h : ElHandle} (hh : hvB h = true) : fvB [h] = true := fvB_true (by simp) (fun j hj => by
  have h0 : j = 0 := by simpa using hj
  subst h0
  exact ⟨hh, fun h => absurd h (by omega)⟩)
theorem folOf_pos {fs : List ElHandle} {h : ElHandle} (hv : fvB fs = true) (hh : hvB h = true) : 0 < (folOf fs h).length := by
  by_cases h0 : fs = []
  · subst h0
    have e : insF [] h = [h] := by simp [insF]
    rw [(folOf_yes hv (by rw [e]; exact fv_one hh)).1, e]; simp
  · have hp : 0 < fs.length := by
      cases fs with
      | nil => exact absurd rfl h0
      | cons _ _ => simp
    unfold folOf
    rw [if_pos hv]
    split
    · rw [insF_len]; omega
    · exact hp
/-- Moved: the first k. -/
def mfTo (ms : List ElMove) (fs : List ElHandle) : Nat → List ElHandle
  | 0 => []
  | k + 1 => folOf (mfTo ms fs k) (whereOf ms (gt fs k))
theorem mfTo_zero (ms : List ElMove) (fs : List ElHandle) : mfTo ms fs 0 = [] := rfl
theorem mfTo_succ (ms : List ElMove) (fs : List ElHandle) (k : Nat) : mfTo ms fs (k + 1) = folOf (mfTo ms fs k) (whereOf ms (gt fs k)) := rfl
theorem mfTo_valid (ms : List ElMove) (fs : List ElHandle) (k : Nat) : fvB (mfTo ms fs k) = true := by
  induction k with
  | zero => exact fv_nil
  | succ k ih => exact folOf_valid ih
theorem mfTo_len (ms : List ElMove) (fs : List ElHandle) (k : Nat) : (mfTo ms fs k).length ≤ k := by
  induction k with
  | zero => simp [mfTo]
  | succ k ih => rw [mfTo_succ]; have := folOf_len1 (mfTo ms fs k) (whereOf ms (gt fs k)); omega
theorem fv_hv {fs : List ElHandle} (h : fvB fs = true) {k : Nat} (hk : k < fs.length) : hvB (gt fs k) = true := ((Fv.of h).2 k hk).1
theorem mfTo_pos {ms : List ElMove} {fs : List ElHandle} (hm : mvB ms = true) (hf : fvB fs = true) {k : Nat} (hk : k < fs.length) : 0 < (mfTo ms fs (k + 1)).length :=
  folOf_pos (mfTo_valid _ _ _) (whereOf_valid hm (fv_hv hf hk))
theorem mfTo_mem {ms : List ElMove} {fs : List ElHandle} (hm : mvB ms = true) (hf : fvB fs = true) : ∀ {k : Nat}, k ≤ fs.length → ∀ {x : ElHandle}, x ∈ mfTo ms fs k → hvB x = true ∧ stk ms x
  | 0, _, x, hx => by cases hx
  | k + 1, hk, x, hx => by
    rw [mfTo_succ] at hx
    rcases folOf_mem hx with h | rfl
    · exact mfTo_mem hm hf (by omega) h
    · exact ⟨whereOf_valid hm (fv_hv hf (by omega)), whereOf_stk hm (fv_hv hf (by omega))⟩
/-- MoveFans' answer. -/
def mfOf (ms : List ElMove) (fs : List ElHandle) : List ElHandle := if (mvB ms && fvB fs) = true then mfTo ms fs fs.length else []
theorem mfOf_yes {ms : List ElMove} {fs : List ElHandle} (hm : mvB ms = true) (hf : fvB fs = true) : mfOf ms fs = mfTo ms fs fs.length := if_pos (by rw [hm, hf]; rfl)
theorem mfOf_no1 {ms : List ElMove} {fs : List ElHandle} (hm : mvB ms = false) : mfOf ms fs = [] := if_neg (by rw [hm]; simp)
theorem mfOf_no2 {ms : List ElMove} {fs : List ElHandle} (hf : fvB fs = false) : mfOf ms fs = [] := if_neg (by rw [hf]; simp)
theorem mfTo_len10 (ms : List ElMove) (fs : List ElHandle) (k : Nat) : (mfTo ms fs k).length ≤ 10 := (Fv.of (mfTo_valid ms fs k)).1
theorem mfOf_len (ms : List ElMove) (fs : List ElHandle) : (mfOf ms fs).length ≤ 10 := by
  unfold mfOf
  split
  · exact mfTo_len10 _ _ _
  · simp
theorem mfOf_le (ms : List ElMove) (fs : List ElHandle) : (mfOf ms fs).length ≤ fs.length := by
  unfold mfOf
  split
  · exact mfTo_len _ _ _
  · simp
theorem mfOf_valid (ms : List ElMove) (fs : List ElHandle) : fvB (mfOf ms fs) = true := by
  unfold mfOf
  split
  · exact mfTo_valid _ _ _
  · exact fv_nil
theorem fv_take {fs : List ElHandle} (h : fvB fs = true) (k : Nat) : fvB (fs.take k) = true := by
  have hv := Fv.of h
  refine fvB_true (by rw [List.length_take]; have := hv.1; omega) (fun j hj => ?_)
  rw [List.length_take] at hj
  obtain ⟨h1, h2⟩ := hv.2 j (by omega)
  refine ⟨?_, fun h0 => ?_⟩
  · rw [gt_take (by omega)]; exact h1
  · rw [gt_take (by omega), gt_take (by omega)]; exact h2 h0
theorem folOf_end {fs : List ElHandle} (h : fvB fs = true) {k : Nat} (hk : k < fs.length) : folOf (fs.take k) (gt fs k) = fs.take (k + 1) := by
  have hlk : (fs.take k).length = k := by rw [List.length_take]; omega
  have hp : posF (fs.take k) (gt fs k) = k := posF_eq _ _ k (by omega) (fun j hj => by
    rw [gt_take hj]; exact hbB_true ((Fv.of h).sorted k j hj hk)) (fun hlt => by omega)
  have hi : insF (fs.take k) (gt fs k) = fs.take (k + 1) := by
    unfold insF
    rw [hp, List.take_take, Nat.min_self, List.drop_of_length_le (by omega), List.append_nil, take_snoc hk]
  rw [← hi]
  exact (folOf_yes (fv_take h k) (by rw [hi]; exact fv_take h _)).1
theorem mfTo_same {ms : List ElMove} {fs : List ElHandle} (hm : mvB ms = true) (hf : fvB fs = true) (hs : ∀ x ∈ fs, stk ms x) : ∀ {k : Nat}, k ≤ fs.length → mfTo ms fs k = fs.take k
  | 0, _ => by simp [mfTo]
  | k + 1, hk => by
    rw [mfTo_succ, mfTo_same hm hf hs (by omega), whereOf_of_stk hm (fv_hv hf (by omega)) (hs _ (gt_mem (by omega))), folOf_end hf (by omega)]
/-- Moving again changes nothing. -/
theorem mfOf_twice {ms : List ElMove} {fs : List ElHandle} (hm : mvB ms = true) (hf : fvB fs = true) : mfOf ms (mfOf ms fs) = mfOf ms fs := by
  have hx : ∀ x ∈ mfOf ms fs, stk ms x := fun x hx => by rw [mfOf_yes hm hf] at hx; exact (mfTo_mem hm hf (Nat.le_refl _) hx).2
  have hv := mfOf_valid ms fs
  generalize mfOf ms fs = xs at *
  rw [mfOf_yes hm hv, mfTo_same hm hv hx (Nat.le_refl _), List.take_length]
end Go.Proofs.Ytdcppbaahoimfaa
