import Derived.Test.YtdcppbaahoimfaaHvPlain
import Derived.Test.YtdcppbaahoimfaaTail
namespace Go.Proofs.Ytdcppbaahoimfaa
open Go.RowKit
theorem implHandleValid_any (a b : ByteArray) (w : World) (ha : a.size ≤ maxLen) (hb : b.size ≤ maxLen) : Calls Try.prog 21 #[.agg #[.string a, .string b]] w fun e w' => e = .returned (.bool (hvB (a, b))) ∧ w' = w.alloc (.cells #[.string a, .string b] 28) := by
  cases q1 : wordB a <;> cases q2 : wordB b
  all_goals
    have HQ := Lib.hid (show hvB (a, b) = _ by unfold hvB; rw [show (a, b).1 = a from rfl, show (a, b).2 = b from rfl, q1, q2])
    go_enter Try.func21, Try.ntmps21
    go_wp2_with (go_at_call 48; refine (implWordValid_any _ _ (by assumption)).mono ?_; rintro e w' ⟨rfl, rfl⟩)
    go_ret
    exact ⟨ret_bool HQ.out.symm, rfl⟩
theorem specHandleValid_any (a b : ByteArray) (w : World) (ha : a.size ≤ maxLen) (hb : b.size ≤ maxLen) : Calls Try.prog 47 #[.agg #[.string a, .string b]] w fun e w' => e = .returned (.bool (hvB (a, b))) ∧ w' = w.alloc (.cells #[.string a, .string b] 28) := by
  cases q1 : wordB a <;> cases q2 : wordB b
  all_goals
    have HQ := Lib.hid (show hvB (a, b) = _ by unfold hvB; rw [show (a, b).1 = a from rfl, show (a, b).2 = b from rfl, q1, q2])
    go_enter Try.func47, Try.ntmps47
    go_wp2_with (go_at_call 60; refine (specWordValid_any _ _ (by assumption)).mono ?_; rintro e w' ⟨rfl, rfl⟩)
    go_ret
    exact ⟨ret_bool HQ.out.symm, rfl⟩
theorem implHandleValid_b (a b : ByteArray) (w : World) (ha : a.size ≤ maxLen) (hb : b.size ≤ maxLen) : Calls Try.prog 21 #[.agg #[.string a, .string b]] w fun e w' => e = .returned (.bool (hvB (a, b))) ∧ Below w.heap.size w w' := (implHandleValid_any a b w ha hb).mono (by rintro e w' ⟨rfl, rfl⟩; exact ⟨rfl, (Below.refl _ _).alloc (Nat.le_refl _) _⟩)
theorem specHandleValid_b (a b : ByteArray) (w : World) (ha : a.size ≤ maxLen) (hb : b.size ≤ maxLen) : Calls Try.prog 47 #[.agg #[.string a, .string b]] w fun e w' => e = .returned (.bool (hvB (a, b))) ∧ Below w.heap.size w w' := (specHandleValid_any a b w ha hb).mono (by rintro e w' ⟨rfl, rfl⟩; exact ⟨rfl, (Below.refl _ _).alloc (Nat.le_refl _) _⟩)
end Go.Proofs.Ytdcppbaahoimfaa
