import Derived.Test.YtfnmlffpnmmcdaaHvPlain
import Derived.Test.YtfnmlffpnmmcdaaTail
namespace Go.Proofs.Ytfnmlffpnmmcdaa
open Go.RowKit
theorem implHandleValid_any (a b : ByteArray) (w : World) (ha : a.size ≤ maxLen) (hb : b.size ≤ maxLen) : Calls Try.prog 14 #[.agg #[.string a, .string b]] w fun e w' => e = .returned (.bool (hvB (a, b))) ∧ w' = w.alloc (.cells #[.string a, .string b] 24) := by
  cases q1 : wordB a <;> cases q2 : wordB b
  all_goals
    have HQ := Lib.hid (show hvB (a, b) = _ by unfold hvB; rw [show (a, b).1 = a from rfl, show (a, b).2 = b from rfl, q1, q2])
    go_enter Try.func14, Try.ntmps14
    go_wp2_with (go_at_call 22; refine (implWordValid_any _ _ (by assumption)).mono ?_; rintro e w' ⟨rfl, rfl⟩)
    go_ret
    exact ⟨ret_bool HQ.out.symm, rfl⟩
theorem specHandleValid_any (a b : ByteArray) (w : World) (ha : a.size ≤ maxLen) (hb : b.size ≤ maxLen) : Calls Try.prog 18 #[.agg #[.string a, .string b]] w fun e w' => e = .returned (.bool (hvB (a, b))) ∧ w' = w.alloc (.cells #[.string a, .string b] 24) := by
  cases q1 : wordB a <;> cases q2 : wordB b
  all_goals
    have HQ := Lib.hid (show hvB (a, b) = _ by unfold hvB; rw [show (a, b).1 = a from rfl, show (a, b).2 = b from rfl, q1, q2])
    go_enter Try.func18, Try.ntmps18
    go_wp2_with (go_at_call 40; refine (specWordValid_any _ _ (by assumption)).mono ?_; rintro e w' ⟨rfl, rfl⟩)
    go_ret
    exact ⟨ret_bool HQ.out.symm, rfl⟩
theorem implHandleValid_b (a b : ByteArray) (w : World) (ha : a.size ≤ maxLen) (hb : b.size ≤ maxLen) : Calls Try.prog 14 #[.agg #[.string a, .string b]] w fun e w' => e = .returned (.bool (hvB (a, b))) ∧ Below w.heap.size w w' := (implHandleValid_any a b w ha hb).mono (by rintro e w' ⟨rfl, rfl⟩; exact ⟨rfl, (Below.refl _ _).alloc (Nat.le_refl _) _⟩)
theorem specHandleValid_b (a b : ByteArray) (w : World) (ha : a.size ≤ maxLen) (hb : b.size ≤ maxLen) : Calls Try.prog 18 #[.agg #[.string a, .string b]] w fun e w' => e = .returned (.bool (hvB (a, b))) ∧ Below w.heap.size w w' := (specHandleValid_any a b w ha hb).mono (by rintro e w' ⟨rfl, rfl⟩; exact ⟨rfl, (Below.refl _ _).alloc (Nat.le_refl _) _⟩)
end Go.Proofs.Ytfnmlffpnmmcdaa
