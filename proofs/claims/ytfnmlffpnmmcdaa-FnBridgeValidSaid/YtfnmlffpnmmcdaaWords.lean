/- Words and digits: what impl.WordValid and spec.WordValid answer. -/
import Derived.Test.YtfnmlffpnmmcdaaBase
namespace Go.Proofs.Ytfnmlffpnmmcdaa
open Go.RowKit
/-- The byte at a place; 0 behind the end. -/
def bb (s : ByteArray) (k : Nat) : Int := if h : k < s.size then (s[k].toNat : Int) else 0
theorem bb_eq (s : ByteArray) (k : Nat) (h : k < s.size) : (s[k].toNat : Int) = bb s k := by unfold bb; rw [dif_pos h]
theorem bb_rng (s : ByteArray) (k : Nat) : 0 ≤ bb s k ∧ bb s k ≤ 255 := by
  unfold bb
  split
  · have := s[k].toNat_lt; omega
  · omega
/-- The value of a digit of marks. -/
def dg (c : Int) : Int := if 48 ≤ c ∧ c ≤ 57 then c - 48 else if 97 ≤ c ∧ c ≤ 122 then c - 97 + 10 else -1
theorem dg_one {c : Int} (h0 : 48 ≤ c) (h1 : c ≤ 57) : dg c = c - 48 := by unfold dg; rw [if_pos ⟨h0, h1⟩]
theorem dg_two {c : Int} (h0 : 97 ≤ c) (h1 : c ≤ 122) : dg c = c - 97 + 10 := by unfold dg; rw [if_neg (by omega), if_pos ⟨h0, h1⟩]
theorem dg_no {c : Int} (h : c < 48 ∨ 57 < c) (h' : c < 97 ∨ 122 < c) : dg c = -1 := by unfold dg; rw [if_neg (by omega), if_neg (by omega)]
theorem dg_lo (c : Int) : -1 ≤ dg c := by
  unfold dg
  repeat' split
  all_goals omega
theorem dg_hi (c : Int) : dg c ≤ 35 := by
  unfold dg
  repeat' split
  all_goals omega
theorem digitValue_any (c : Int) (h0 : 0 ≤ c) (h1 : c ≤ 255) (w : World) : Calls Try.prog 43 #[.int .u8 c] w fun e w' => e = .returned (.int .i64 (dg c)) ∧ w = w' := by
  go_enter Try.func43, Try.ntmps43
  go_wp2
  all_goals go_ret
  all_goals exact ⟨ret_int (by first | rw [dg_one (by omega) (by omega)] | rw [dg_two (by omega) (by omega)] | rw [dg_no (by omega) (by omega)]), rfl⟩
/-- May the byte stand in a word? -/
def wok (c : Int) : Prop := (48 ≤ c ∧ c ≤ 57) ∨ (97 ≤ c ∧ c ≤ 122)
theorem dg_wok {c : Int} : 0 ≤ dg c ↔ wok c := by
  unfold dg wok
  split
  · omega
  · split <;> omega
def wokTo (s : ByteArray) (k : Nat) : Prop := ∀ j, j < k → wok (bb s j)
def Word (s : ByteArray) : Prop := 1 ≤ s.size ∧ s.size ≤ 8 ∧ 97 ≤ bb s 0 ∧ bb s 0 ≤ 122 ∧ wokTo s s.size
instance (s : ByteArray) (k : Nat) : Decidable (wokTo s k) := Nat.decidableBallLT k (fun j _ => (48 ≤ bb s j ∧ bb s j ≤ 57) ∨ (97 ≤ bb s j ∧ bb s j ≤ 122))
instance (s : ByteArray) : Decidable (Word s) := inferInstanceAs (Decidable (_ ∧ _))
/-- Is it a word? -/
def wordB (s : ByteArray) : Bool := decide (Word s)
theorem wordB_true {s : ByteArray} (h : Word s) : wordB s = true := decide_eq_true h
theorem wordB_size {s : ByteArray} (h : s.size < 1 ∨ 8 < s.size) : wordB s = false := decide_eq_false fun hw => by have := hw.1; have := hw.2.1; omega
theorem wordB_first {s : ByteArray} (h : bb s 0 < 97 ∨ 122 < bb s 0) : wordB s = false := decide_eq_false fun hw => by have := hw.2.2.1; have := hw.2.2.2.1; omega
theorem wordB_bad {s : ByteArray} {k : Nat} (hk : k < s.size) (h : ¬ wok (bb s k)) : wordB s = false := decide_eq_false fun hw => h (hw.2.2.2.2 k hk)
theorem Word.of {s : ByteArray} (h : wordB s = true) : Word s := of_decide_eq_true h
theorem wokTo_succ {s : ByteArray} {k : Nat} (h : wokTo s k) (h1 : wok (bb s k)) : wokTo s (k + 1) := by
  intro j hj
  rcases Nat.lt_succ_iff_lt_or_eq.1 hj with h' | rfl
  · exact h j h'
  · exact h1
set_option maxHeartbeats 400000 in
theorem implWordValid_any (s : ByteArray) (w : World) (hs : s.size ≤ maxLen) : Calls Try.prog 22 #[.string s] w fun e w' => e = .returned (.bool (wordB s)) ∧ w = w' := by
  unfold maxLen at hs
  have hbb := bb_eq s
  by_cases h1 : s.size < 1
  · have HR := Lib.hid (wordB_size (.inl h1))
    have hd1 : decide ((s.size : Int) < 1) = true := by simp; omega
    go_enter Try.func22, Try.ntmps22
    go_wp2_with fail
    go_ret
    exact ⟨ret_bool HR.out.symm, rfl⟩
  · have hd1 : decide ((s.size : Int) < 1) = false := by simp; omega
    by_cases h8 : 8 < s.size
    · have HR := Lib.hid (wordB_size (.inr h8))
      have hd8 : decide (8 < (s.size : Int)) = true := by simp; omega
      go_enter Try.func22, Try.ntmps22
      go_wp2_with fail
      go_ret
      exact ⟨ret_bool HR.out.symm, rfl⟩
    · have hd8 : decide (8 < (s.size : Int)) = false := by simp; omega
      by_cases hlo : bb s 0 < 97
      · have HR := Lib.hid (wordB_first (.inl hlo))
        have hdl : decide (bb s 0 < 97) = true := by simp [hlo]
        go_enter Try.func22, Try.ntmps22
        go_wp2_with fail
        go_ret
        exact ⟨ret_bool HR.out.symm, rfl⟩
      · have hdl : decide (bb s 0 < 97) = false := by simp; omega
        by_cases hhi : 122 < bb s 0
        · have HR := Lib.hid (wordB_first (.inr hhi))
          have hdh : decide (122 < bb s 0) = true := by simp [hhi]
          go_enter Try.func22, Try.ntmps22
          go_wp2_with fail
          go_ret
          exact ⟨ret_bool HR.out.symm, rfl⟩
        · have hdh : decide (122 < bb s 0) = false := by simp; omega
          go_enter Try.func22, Try.ntmps22
          go_wp2_with fail
          go_loop [3] (fun i => ∃ k : Nat, 1 ≤ k ∧ k ≤ s.size ∧ Hid (wokTo s k) ∧ i = .int .i64 k) (fun i => s.size - (intOf i).toNat)
          case atStart => exact ⟨1, Nat.le_refl _, by omega, Lib.hid (wokTo_succ (fun j hj => by omega) (.inr ⟨by omega, by omega⟩)), rfl⟩
          case round =>
            obtain ⟨k, hk1, hk, hok, rfl⟩ := hrel
            by_cases hlt : k < s.size
            · have hr := bb_rng s k
              have hlo2 := dg_lo (bb s k)
              by_cases hdg : 0 ≤ dg (bb s k)
              · have hdd : decide (dg (bb s k) < 0) = false := by simp; omega
                go_wp2_with (go_at_call 43; refine (digitValue_any _ (by omega) (by omega) _).mono ?_; rintro e w' ⟨rfl, rfl⟩)
                go_round
                case rel => exact ⟨k + 1, by omega, by omega, Lib.hid (wokTo_succ hok.out (dg_wok.1 hdg)), by go_num⟩
                case measure => simp [intOf]; omega
              · have hdd : decide (dg (bb s k) < 0) = true := by simp; omega
                go_wp2_with (go_at_call 43; refine (digitValue_any _ (by omega) (by omega) _).mono ?_; rintro e w' ⟨rfl, rfl⟩)
                go_ret
                exact ⟨ret_bool (wordB_bad hlt (fun h => by have := dg_wok.2 h; omega)).symm, rfl⟩
            · obtain rfl : k = s.size := by omega
              go_wp2_with fail
              go_ret
              exact ⟨ret_bool (wordB_true ⟨by omega, by omega, by omega, by omega, hok.out⟩).symm, rfl⟩
theorem alive_any (w : World) : Calls Try.prog 8 #[] w fun e w' => e = .returned (.bool true) ∧ w = w' := by
  have h1 : wordB { data := #[97, 49] } = true := by decide
  have h2 : wordB { data := #[49, 97] } = false := by decide
  go_enter Try.func8, Try.ntmps8
  go_wp2_with (go_at_call 22; refine (implWordValid_any _ _ (by decide)).mono ?_; rintro e w' ⟨rfl, rfl⟩)
  go_ret
  exact ⟨rfl, rfl⟩
end Go.Proofs.Ytfnmlffpnmmcdaa
