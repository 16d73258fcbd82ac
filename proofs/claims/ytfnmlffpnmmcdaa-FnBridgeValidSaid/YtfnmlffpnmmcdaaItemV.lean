/- Items that are valid. -/
import Derived.Test.YtfnmlffpnmmcdaaDateF
import Derived.Test.YtfnmlffpnmmcdaaTextPlain
import Derived.Test.YtfnmlffpnmmcdaaTextV
import Derived.Test.YtfnmlffpnmmcdaaWords
import Derived.Test.YtfnmlffpnmmcdaaSpecWord
import Derived.Test.YtfnmlffpnmmcdaaRegB
namespace Go.Proofs.Ytfnmlffpnmmcdaa
open Go.RowKit
/-- ItemValid's answer. -/
def ivB (p : ByteArray × ByteArray × ByteArray × Int) : Bool := wordB p.1 && (textB p.2.1 && (!(p.2.1.size == 0) && (textB p.2.2.1 && dayB p.2.2.2)))
theorem tl_empty (b : ByteArray) : b.toList.isEmpty = (b.size == 0) := by
  rw [← ba_size]; cases b.toList <;> simp
theorem tl_nil {b : ByteArray} : b.toList = [] ↔ b.size = 0 := by
  rw [← ba_size]; cases b.toList <;> simp
theorem isday_e {d : Int} {s : ByteArray} (h : IsDay d s) : (s.size == 0) = !dayB d := by
  unfold IsDay at h
  cases hd : dayB d <;> simp [hd] at h <;> simp [h]
theorem implItemValid_any (a b c : ByteArray) (d : Int) (w : World) (ha : a.size ≤ maxLen) (hb : b.size ≤ maxLen) (hc : c.size ≤ maxLen) : Calls Try.prog 37 #[.agg #[.string a, .string b, .string c, .int .i64 d]] w fun e w' => e = .returned (.bool (ivB (a, b, c, d))) ∧ Below w.heap.size w w' := by
  cases q1 : wordB a <;> cases q2 : textB b <;> cases q3 : textB c
  all_goals
    go_enter Try.func37, Try.ntmps37
    go_wp2_with (first | (go_at_call 22; refine (implWordValid_any _ _ (by assumption)).mono ?_; rintro e w' ⟨rfl, rfl⟩) | (go_at_call 50; refine (implTextValid_any _ _ (by assumption)).mono ?_; rintro e w' ⟨rfl, rfl⟩) | (go_at_call 51; refine (implDateText_any _ _).mono ?_; rintro e w' ⟨⟨s, rfl, hs⟩, hb⟩))
    all_goals
      go_ret
      first
        | exact ⟨ret_bool (by have he := isday_e hs; simp_all [ivB, tl_empty, tl_nil]), ((Below.refl _ _).alloc (Nat.le_refl _) _).trans (hb.mono (by simp))⟩
        | exact ⟨ret_bool (by simp_all [ivB, tl_empty, tl_nil]), (Below.refl _ _).alloc (Nat.le_refl _) _⟩
theorem specItemValid_any (a b c : ByteArray) (d : Int) (w : World) (ha : a.size ≤ maxLen) (hb : b.size ≤ maxLen) (hc : c.size ≤ maxLen) : Calls Try.prog 41 #[.agg #[.string a, .string b, .string c, .int .i64 d]] w fun e w' => e = .returned (.bool (ivB (a, b, c, d))) ∧ Below w.heap.size w w' := by
  cases q1 : wordB a <;> cases q2 : textB b <;> cases q3 : textB c
  all_goals
    go_enter Try.func41, Try.ntmps41
    go_wp2_with (first | (go_at_call 40; refine (specWordValid_any _ _ (by assumption)).mono ?_; rintro e w' ⟨rfl, rfl⟩) | (go_at_call 52; refine (specTextValid_any _ _ (by assumption)).mono ?_; rintro e w' ⟨rfl, rfl⟩) | (go_at_call 53; refine (specDateText_any _ _).mono ?_; rintro e w' ⟨⟨s, rfl, hs⟩, hb⟩))
    all_goals
      go_ret
      first
        | exact ⟨ret_bool (by have he := isday_e hs; simp_all [ivB, tl_empty, tl_nil]), ((Below.refl _ _).alloc (Nat.le_refl _) _).trans (hb.mono (by simp))⟩
        | exact ⟨ret_bool (by simp_all [ivB, tl_empty, tl_nil]), (Below.refl _ _).alloc (Nat.le_refl _) _⟩
end Go.Proofs.Ytfnmlffpnmmcdaa
