/- Numbers in a range; contracts that leave the world alone, as the regions want them. -/
import Derived.Test.YtfnmlffpnmmcdaaBase
import Derived.StillTailTactics
namespace Go.Proofs.Ytfnmlffpnmmcdaa
open Go.RowKit
/-- Is n in lo..hi? -/
def inB (n lo hi : Int) : Bool := decide (lo ≤ n) && decide (n ≤ hi)
theorem inB_true {n lo hi : Int} (h1 : lo ≤ n) (h2 : n ≤ hi) : inB n lo hi = true := by simp [inB, h1, h2]
theorem inB_false {n lo hi : Int} (h : n < lo ∨ hi < n) : inB n lo hi = false := by simp [inB]; omega
theorem within_any (n lo hi : Int) (w : World) : Calls Try.prog 17 #[.int .i64 n, .int .i64 lo, .int .i64 hi] w fun e w' => e = .returned (.bool (inB n lo hi)) ∧ w = w' := by
  go_enter Try.func17, Try.ntmps17
  go_wp2
  all_goals (go_ret; exact ⟨ret_bool (by simp [inB, *] <;> omega), rfl⟩)
theorem l1In_any (n lo hi : Int) (w : World) : Calls Try.prog 21 #[.int .i64 n, .int .i64 lo, .int .i64 hi] w fun e w' => e = .returned (.bool (inB n lo hi)) ∧ w = w' := by
  go_enter Try.func21, Try.ntmps21
  go_wp2
  all_goals (go_ret; exact ⟨ret_bool (by simp [inB, *] <;> omega), rfl⟩)

theorem inB_at {n : Int} {l : Nat} (h : inB n 0 ((l : Int) - 1) = true) : 0 ≤ n ∧ n < l := by
  simp only [inB, Bool.and_eq_true, decide_eq_true_eq] at h; omega
theorem inB_out {n : Int} {l : Nat} (h : inB n 0 ((l : Int) - 1) = false) : n < 0 ∨ (l : Int) ≤ n := by
  simp only [inB, Bool.and_eq_false_iff, decide_eq_false_iff_not] at h; omega
theorem still_of {P : Program} {f : FuncId} {args : Array Value} {w : World} {v : Value} (h : Calls P f args w fun e w' => e = .returned v ∧ w = w') : Calls P f args w fun e w' => e = .returned v ∧ w' = w := h.mono fun _ _ ⟨he, hw⟩ => ⟨he, hw.symm⟩
theorem quiet_of {P : Program} {f : FuncId} {args : Array Value} {w : World} {n : Nat} {v : Value} (h : Calls P f args (w.drewN n) fun e w' => e = .returned v ∧ w.drewN n = w') : Calls P f args (w.drewN n) fun e w'' => e = .returned v ∧ ∃ m, w'' = w.drewN m := h.mono fun _ _ ⟨he, hw⟩ => ⟨he, n, hw.symm⟩
end Go.Proofs.Ytfnmlffpnmmcdaa
