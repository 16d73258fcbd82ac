/- Timelines come once: what the law of their validity asks for. -/
import Derived.Test.YthkdofflfaikgaaTimePlain3
namespace Go.Proofs.Ythkdofflfaikgaa
theorem tvB_tail {xs : List ElPost} (h : tvB xs = true) : tvB (xs.drop 1) = true := by
  cases xs with
  | nil => exact h
  | cons x xs =>
    have hT := Tv.of h
    refine decide_eq_true (Tv.mk ?_ ?_ ?_)
    · have := hT.1; simp at this ⊢; omega
    · intro p hp; exact hT.ok (List.mem_cons_of_mem _ (by simpa using hp))
    · intro i j hij hj
      have hj' : j < xs.length := by simpa using hj
      have := hT.sorted (j + 1) (i + 1) (by omega) (by simp; omega)
      rw [gt_cons, gt_cons] at this
      simpa using this
theorem tvB_twice (x : ElPost) (xs : List ElPost) : tvB (x :: x :: xs) = false := tvB_bad (k := 1) (by simp) (fun h => by
  have := h.2 (by omega)
  rw [show (1 - 1 : Nat) = 0 by rfl, gt_head, gt_cons, gt_head] at this
  exact Bef.irrefl this)
theorem tvB_twice' {xs : List ElPost} (h : 0 < xs.length) : tvB ([gt xs 0] ++ xs) = false := by
  cases xs with
  | nil => simp at h
  | cons x ys => exact tvB_twice x ys
end Go.Proofs.Ythkdofflfaikgaa
