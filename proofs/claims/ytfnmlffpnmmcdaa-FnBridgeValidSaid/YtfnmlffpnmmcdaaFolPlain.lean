/- Plain laws of following: what is in the answer. -/
import Derived.Test.YtfnmlffpnmmcdaaFollowPlain
namespace Go.Proofs.Ytfnmlffpnmmcdaa
theorem fv_nil : fvB [] = true := fvB_true (by simp) (fun j hj => by simp at hj)
theorem folOf_valid {fs : List ElHandle} {h : ElHandle} (hv : fvB fs = true) : fvB (folOf fs h) = true := by
  unfold folOf
  rw [if_pos hv]
  split
  · next k => exact k
  · exact hv
theorem folOf_cases (fs : List ElHandle) (h : ElHandle) : folOf fs h = [] ∨ folOf fs h = fs ∨ folOf fs h = insF fs h := by
  unfold folOf
  split
  · split
    · exact .inr (.inr rfl)
    · exact .inr (.inl rfl)
  · exact .inl rfl
theorem insF_mem {fs : List ElHandle} {h x : ElHandle} (hx : x ∈ insF fs h) : x ∈ fs ∨ x = h := by
  unfold insF at hx
  simp only [List.mem_append, List.mem_singleton] at hx
  rcases hx with (hx | hx) | hx
  · exact .inl (List.mem_of_mem_take hx)
  · exact .inr hx
  · exact .inl (List.mem_of_mem_drop hx)
theorem folOf_mem {fs : List ElHandle} {h x : ElHandle} (hx : x ∈ folOf fs h) : x ∈ fs ∨ x = h := by
  rcases folOf_cases fs h with e | e | e
  · rw [e] at hx; cases hx
  · rw [e] at hx; exact .inl hx
  · rw [e] at hx; exact insF_mem hx
theorem folOf_len1 (fs : List ElHandle) (h : ElHandle) : (folOf fs h).length ≤ fs.length + 1 := by
  rcases folOf_cases fs h with e | e | e
  · rw [e]; simp
  · rw [e]; omega
  · rw [e, insF_len]; omega
theorem fv_one {h : ElHandle} (hh : hvB h = true) : fvB [h] = true := fvB_true (by simp) (fun j hj => by
  have h0 : j = 0 := by simpa using hj
  subst h0
  exact ⟨hh, fun h => absurd h (by omega)⟩)
theorem folOf_pos {fs : List ElHandle} {h : ElHandle} (hv : fvB fs = true) (hh : hvB h = true) : 0 < (folOf fs h).length := by
  by_cases h0 : fs = []
  · subst h0
    have e : insF [] h = [h] := by simp [insF]
    rw [(folOf_yes hv (by rw [e]; exact fv_one hh)).1, e]; simp
  · have hp : 0 < fs.length := by
      cases fs with
      | nil => exact absurd rfl h0
      | cons _ _ => simp
    unfold folOf
    rw [if_pos hv]
    split
    · rw [insF_len]; omega
    · exact hp
end Go.Proofs.Ytfnmlffpnmmcdaa
