/- ManyWords, walked: the program's over the library's Fields, the reference's. -/
import Derived.Test.YtlldbgekbndohaaDoorTextV
import Derived.Test.YtlldbgekbndohaaDoorCountShelf
namespace Go.Proofs.YtlldbgekbndohaaDoor
open Go.RowKit
/-- The library's table of spaces holds what it was laid with. -/
def SpTab (w : World) : Prop := ∀ c : Nat, c < 256 → w.cell? ⟨Tryd.lays157_ren.g 0, c, none⟩ = some (.int .u8 (if Lib.isSp (UInt8.ofNat c) then 1 else 0))
theorem SpTab.below {B : Nat} {w w' : World} (h : SpTab w) (hb : Below B w w') (hB : w.heap.size ≤ B) : SpTab w' := fun c hc =>
  (hb.cell (p := ⟨_, c, none⟩) (Nat.lt_of_lt_of_le (World.block_lt_of_cell? _ _ (h c hc)) hB)).trans (h c hc)
theorem fields_any (s : ByteArray) (w : World) (h : Text s) (hT : SpTab w) : Calls Tryd.prog 11 #[.string s] w fun e w' => e = .returned (.slice (some ⟨w.heap.size, 0, none⟩) (wdTo s s.size) (wdTo s s.size)) ∧ Below w.heap.size w w' := by
  have hcall := Any.strings_Fields_core Tryd.lays157 (by kernel_rfl) s w (by have := h.1; omega) (text_ascii h) hT
  rw [words_count h] at hcall
  exact hcall.mono fun e w' ⟨he, hw⟩ => ⟨he, by rw [hw]; exact (Below.refl _ _).alloc (Nat.le_refl _) _⟩
set_option maxHeartbeats 800000 in
theorem implManyWords_any (s : ByteArray) (w : World) (hs : s.size ≤ maxLen) (hT : SpTab w) : Calls Tryd.prog 6 #[.string s] w fun e w' => e = .returned (.int .i64 (wordsOf s)) ∧ Below w.heap.size w w' := by
  have HT := Lib.hid hT
  clear hT
  by_cases hv : textB s = true
  · have hn := wdTo_le s s.size
    have h80 := (Text.of hv).1
    have HV := Lib.hid (Text.of hv)
    have HQ := Lib.hid (wordsOf_yes hv)
    go_enter Tryd.func6, Tryd.ntmps6
    go_wp2_with (go_at_call 8; refine (implTextValid_any _ _ (by assumption)).mono ?_; rintro e w' ⟨rfl, rfl⟩)
    clear hv
    refine (fields_any s w HV.out HT.out).mono ?_
    rintro e w' ⟨rfl, hb⟩
    go_wp2_with fail
    go_ret
    exact ⟨ret_int HQ.out.symm, hb⟩
  · have hv' : textB s = false := by simpa using hv
    have HQ := Lib.hid (wordsOf_no hv')
    clear hv
    go_enter Tryd.func6, Tryd.ntmps6
    go_wp2_with (go_at_call 8; refine (implTextValid_any _ _ (by assumption)).mono ?_; rintro e w' ⟨rfl, rfl⟩)
    go_ret
    exact ⟨ret_int HQ.out.symm, Below.refl _ _⟩
set_option maxHeartbeats 800000 in
theorem specManyWords_any (s : ByteArray) (w : World) (hs : s.size ≤ maxLen) : Calls Tryd.prog 5 #[.string s] w fun e w' => e = .returned (.int .i64 (wordsOf s)) ∧ w = w' := by
  have hbb := bb_eq s
  by_cases hv : textB s = true
  · have h80 := (Text.of hv).1
    have HQ := Lib.hid (wordsOf_yes hv)
    go_enter Tryd.func5, Tryd.ntmps5
    go_wp2_with (go_at_call 10; refine (specTextValid_any _ _ (by assumption)).mono ?_; rintro e w' ⟨rfl, rfl⟩)
    clear hv
    go_loop [3, 4] (fun n i => ∃ k : Nat, k ≤ s.size ∧ i = .int .i64 k ∧ n = .int .i64 (wdTo s k)) (fun _ i => s.size - (intOf i).toNat)
    case atStart => exact ⟨0, Nat.zero_le _, rfl, rfl⟩
    case round =>
      obtain ⟨k, hk, rfl, rfl⟩ := hrel
      have hn := wdTo_le s k
      by_cases hlt : k < s.size
      · by_cases h1 : bb s k = 32
        · have e1 : (bb s k != 32) = false := by simp [h1]
          have HN := Lib.hid (wdTo_no (wdB_sp h1))
          clear h1
          go_wp2_with fail
          go_round
          case rel => exact ⟨k + 1, by omega, by go_num, by first | (rw [HN.out]; done) | (rw [HN.out]; rfl)⟩
          case measure => first | (simp [intOf]; done) | (simp [intOf]; omega)
        · have e1 : (bb s k != 32) = true := by simp [h1]
          rcases Nat.eq_zero_or_pos k with rfl | hpos
          · have HN := Lib.hid (wdTo_yes (wdB_true h1 (.inl rfl)))
            have HZ := Lib.hid (wdTo_zero s)
            clear h1
            go_wp2_with fail
            go_round
            case rel => exact ⟨1, by omega, by go_num, by first | (rw [HN.out]; go_num) | (rw [HN.out, HZ.out]; rfl)⟩
            case measure => first | (simp [intOf]; done) | (simp [intOf]; omega)
          · obtain ⟨m, rfl⟩ : ∃ m, k = m + 1 := ⟨k - 1, by omega⟩
            have hk1 : (((m + 1 : Nat) : Int) - 1) = (m : Int) := by omega
            have hz0 : (((m + 1 : Nat) : Int) == 0) = false := beq_eq_false_iff_ne.2 (by omega)
            have hm : m < s.size := by omega
            by_cases h2 : bb s m = 32
            · have e2 : (bb s m == 32) = true := beq_iff_eq.2 h2
              have HN := Lib.hid (wdTo_yes (wdB_true h1 (.inr (by rw [Nat.add_sub_cancel]; exact h2))))
              clear h1 h2
              go_wp2_with fail
              go_round
              case rel => exact ⟨m + 1 + 1, by omega, by go_num, by first | (rw [HN.out]; done) | (rw [HN.out]; go_num)⟩
              case measure => first | (simp [intOf]; done) | (simp [intOf]; omega)
            · have e2 : (bb s m == 32) = false := beq_eq_false_iff_ne.2 h2
              have HN := Lib.hid (wdTo_no (wdB_in (s := s) (k := m + 1) (by omega) (by rw [Nat.add_sub_cancel]; exact h2)))
              clear h1 h2
              go_wp2_with fail
              go_round
              case rel => exact ⟨m + 1 + 1, by omega, by go_num, by first | (rw [HN.out]; done) | (rw [HN.out]; rfl)⟩
              case measure => first | (simp [intOf]; done) | (simp [intOf]; omega)
      · obtain rfl : k = s.size := by omega
        go_wp2_with fail
        go_ret
        exact ⟨ret_int HQ.out.symm, rfl⟩
  · have hv' : textB s = false := by simpa using hv
    have HQ := Lib.hid (wordsOf_no hv')
    clear hv
    go_enter Tryd.func5, Tryd.ntmps5
    go_wp2_with (go_at_call 10; refine (specTextValid_any _ _ (by assumption)).mono ?_; rintro e w' ⟨rfl, rfl⟩)
    go_ret
    exact ⟨ret_int HQ.out.symm, rfl⟩
end Go.Proofs.YtlldbgekbndohaaDoor
