/- Items that are valid. -/
import Derived.Test.YtnmgfpphihieiaaDateF
import Derived.Test.YtnmgfpphihieiaaTextPlain
import Derived.Test.YtnmgfpphihieiaaTextV
import Derived.Test.YtnmgfpphihieiaaWords
import Derived.Test.YtnmgfpphihieiaaSpecWord
import Derived.Test.YtnmgfpphihieiaaRegB
namespace Go.Proofs.Ytnmgfpphihieiaa
open Go.RowKit
/-- ItemValid's answer. -/
def ivB (p : ByteArray × ByteArray × ByteArray × Int) : Bool := wordB p.1 && (textB p.2.1 && (!(p.2.1.size == 0) && (textB p.2.2.1 && dayB p.2.2.2)))
theorem tl_empty (b : ByteArray) : b.toList.isEmpty = (b.size == 0) := by
  rw [← ba_size]; cases b.toList <;> simp
theorem tl_nil {b : ByteArray} : b.toList = [] ↔ b.size = 0 := by
  rw [← ba_size]; cases b.toList <;> simp
theorem isday_e {d : Int} {s : ByteArray} (h : IsDay d s) : (s.size == 0) = !dayB d := by
  unfold IsDay at h
  cases hd : dayB d <;> simp [hd] at h <;> simp [h]
theorem implItemValid_any (a b c : ByteArray) (d : Int) (w : World) (ha : a.size ≤ maxLen) (hb : b.size ≤ maxLen) (hc : c.size ≤ maxLen) : Calls Try.prog 20 #[.agg #[.string a, .string b, .string c, .int .i64 d]] w fun e w' => e = .returned (.bool (ivB (a, b, c, d))) ∧ Below w.heap.size w w' := by
  cases q1 : wordB a <;> cases q2 : textB b <;> cases q3 : textB c
  all_goals
    go_enter Try.func20, Try.ntmps20
    go_wp2_with (first | (go_at_call 24; refine (implWordValid_any _ _ (by assumption)).mono ?_; rintro e w' ⟨rfl, rfl⟩) | (go_at_call 10; refine (implTextValid_any _ _ (by assumption)).mono ?_; rintro e w' ⟨rfl, rfl⟩) | (go_at_call 32; refine (implDateText_any _ _).mono ?_; rintro e w' ⟨⟨s, rfl, hs⟩, hb⟩))
    all_goals
      go_ret
      first
        | exact ⟨ret_bool (by have he := isday_e hs; simp_all [ivB, tl_empty, tl_nil]), ((Below.refl _ _).alloc (Nat.le_refl _) _).trans (hb.mono (by simp))⟩
        | exact ⟨ret_bool (by simp_all [ivB, tl_empty, tl_nil]), (Below.refl _ _).alloc (Nat.le_refl _) _⟩
theorem specItemValid_any (a b c : ByteArray) (d : Int) (w : World) (ha : a.size ≤ maxLen) (hb : b.size ≤ maxLen) (hc : c.size ≤ maxLen) : Calls Try.prog 28 #[.agg #[.string a, .string b, .string c, .int .i64 d]] w fun e w' => e = .returned (.bool (ivB (a, b, c, d))) ∧ Below w.heap.size w w' := by
  cases q1 : wordB a <;> cases q2 : textB b <;> cases q3 : textB c
  all_goals
    go_enter Try.func28, Try.ntmps28
    go_wp2_with (first | (go_at_call 37; refine (specWordValid_any _ _ (by assumption)).mono ?_; rintro e w' ⟨rfl, rfl⟩) | (go_at_call 23; refine (specTextValid_any _ _ (by assumption)).mono ?_; rintro e w' ⟨rfl, rfl⟩) | (go_at_call 38; refine (specDateText_any _ _).mono ?_; rintro e w' ⟨⟨s, rfl, hs⟩, hb⟩))
    all_goals
      go_ret
      first
        | exact ⟨ret_bool (by have he := isday_e hs; simp_all [ivB, tl_empty, tl_nil]), ((Below.refl _ _).alloc (Nat.le_refl _) _).trans (hb.mono (by simp))⟩
        | exact ⟨ret_bool (by simp_all [ivB, tl_empty, tl_nil]), (Below.refl _ _).alloc (Nat.le_refl _) _⟩
end Go.Proofs.Ytnmgfpphihieiaa
