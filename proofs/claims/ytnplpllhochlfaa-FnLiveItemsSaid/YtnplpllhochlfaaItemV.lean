/- Items that are valid. -/
import Derived.Test.YtnplpllhochlfaaDateF
import Derived.Test.YtnplpllhochlfaaTextPlain
import Derived.Test.YtnplpllhochlfaaTextV
import Derived.Test.YtnplpllhochlfaaWords
import Derived.Test.YtnplpllhochlfaaSpecWord
import Derived.Test.YtnplpllhochlfaaRegB
namespace Go.Proofs.Ytnplpllhochlfaa
open Go.RowKit
/-- ItemValid's answer. -/
def ivB (p : ByteArray × ByteArray × ByteArray × Int) : Bool := wordB p.1 && (textB p.2.1 && (!(p.2.1.size == 0) && (textB p.2.2.1 && dayB p.2.2.2)))
theorem tl_empty (b : ByteArray) : b.toList.isEmpty = (b.size == 0) := by
  rw [← ba_size]; cases b.toList <;> simp
theorem tl_nil {b : ByteArray} : b.toList = [] ↔ b.size = 0 := by
  rw [← ba_size]; cases b.toList <;> simp
theorem isday_e {d : Int} {s : ByteArray} (h : IsDay d s) : (s.size == 0) = !dayB d := by
  unfold IsDay at h
  cases hd : dayB d <;> simp [hd] at h <;> simp [h]
theorem implItemValid_any (a b c : ByteArray) (d : Int) (w : World) (ha : a.size ≤ maxLen) (hb : b.size ≤ maxLen) (hc : c.size ≤ maxLen) : Calls Try.prog 29 #[.agg #[.string a, .string b, .string c, .int .i64 d]] w fun e w' => e = .returned (.bool (ivB (a, b, c, d))) ∧ Below w.heap.size w w' := by
  cases q1 : wordB a <;> cases q2 : textB b <;> cases q3 : textB c
  all_goals
    go_enter Try.func29, Try.ntmps29
    go_wp2_with (first | (go_at_call 31; refine (implWordValid_any _ _ (by assumption)).mono ?_; rintro e w' ⟨rfl, rfl⟩) | (go_at_call 48; refine (implTextValid_any _ _ (by assumption)).mono ?_; rintro e w' ⟨rfl, rfl⟩) | (go_at_call 49; refine (implDateText_any _ _).mono ?_; rintro e w' ⟨⟨s, rfl, hs⟩, hb⟩))
    all_goals
      go_ret
      first
        | exact ⟨ret_bool (by have he := isday_e hs; simp_all [ivB, tl_empty, tl_nil]), ((Below.refl _ _).alloc (Nat.le_refl _) _).trans (hb.mono (by simp))⟩
        | exact ⟨ret_bool (by simp_all [ivB, tl_empty, tl_nil]), (Below.refl _ _).alloc (Nat.le_refl _) _⟩
theorem specItemValid_any (a b c : ByteArray) (d : Int) (w : World) (ha : a.size ≤ maxLen) (hb : b.size ≤ maxLen) (hc : c.size ≤ maxLen) : Calls Try.prog 45 #[.agg #[.string a, .string b, .string c, .int .i64 d]] w fun e w' => e = .returned (.bool (ivB (a, b, c, d))) ∧ Below w.heap.size w w' := by
  cases q1 : wordB a <;> cases q2 : textB b <;> cases q3 : textB c
  all_goals
    go_enter Try.func45, Try.ntmps45
    go_wp2_with (first | (go_at_call 46; refine (specWordValid_any _ _ (by assumption)).mono ?_; rintro e w' ⟨rfl, rfl⟩) | (go_at_call 54; refine (specTextValid_any _ _ (by assumption)).mono ?_; rintro e w' ⟨rfl, rfl⟩) | (go_at_call 55; refine (specDateText_any _ _).mono ?_; rintro e w' ⟨⟨s, rfl, hs⟩, hb⟩))
    all_goals
      go_ret
      first
        | exact ⟨ret_bool (by have he := isday_e hs; simp_all [ivB, tl_empty, tl_nil]), ((Below.refl _ _).alloc (Nat.le_refl _) _).trans (hb.mono (by simp))⟩
        | exact ⟨ret_bool (by simp_all [ivB, tl_empty, tl_nil]), (Below.refl _ _).alloc (Nat.le_refl _) _⟩
end Go.Proofs.Ytnplpllhochlfaa
