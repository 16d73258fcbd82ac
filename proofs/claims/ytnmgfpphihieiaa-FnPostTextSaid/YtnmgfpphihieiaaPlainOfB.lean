/- PlainOf, walked. -/
import Derived.Test.YtnmgfpphihieiaaPlainOfA
import Derived.Test.YtnmgfpphihieiaaTextV
namespace Go.Proofs.Ytnmgfpphihieiaa
open Go.RowKit
/-- A value's length, if it is a text. -/
def strLen (v : Value) : Nat := match v with
  | .string s => s.size
  | _ => 0
theorem ext_ext {s : ByteArray} {p a : Nat} (h : p + a ≤ s.size) : (s.extract p s.size).extract 0 a = s.extract p (p + a) := by
  apply ba_bb
  · simp only [ByteArray.size_extract]; omega
  · intro k hk
    simp only [ByteArray.size_extract] at hk
    rw [bb_extract (by rw [ByteArray.size_extract]; omega) (by omega), bb_extract (Nat.le_refl _) (by omega), bb_extract (by omega) (by omega), Nat.zero_add]
theorem ext_ext2 {s : ByteArray} {p a : Nat} (h : p + a ≤ s.size) : (s.extract p s.size).extract a (s.extract p s.size).size = s.extract (p + a) s.size := by
  apply ba_bb
  · simp only [ByteArray.size_extract]; omega
  · intro k hk
    simp only [ByteArray.size_extract] at hk
    rw [bb_extract (Nat.le_refl _) (by rw [ByteArray.size_extract]; omega), bb_extract (Nat.le_refl _) (by omega), bb_extract (Nat.le_refl _) (by omega), Nat.add_assoc]
set_option maxHeartbeats 1600000 in
theorem specPlainOf_any (s : ByteArray) (w : World) (hs : s.size ≤ maxLen) : Calls Try.prog 29 #[.string s] w fun e w' => e = .returned (.string (plainOf s)) ∧ w = w' := by
  have hbb := bb_eq s
  by_cases hv : textB s = true
  · have h80 := (Text.of hv).1
    have HV := Lib.hid hv
    go_enter Try.func29, Try.ntmps29
    go_wp2_with fail
    go_loop [3, 4, 5] (fun o i kk => ∃ (k : Nat) (out : ByteArray) (ins : Bool), k ≤ s.size ∧ Hid (plS s k = (out, ins)) ∧ out.size ≤ k ∧ o = .string out ∧ i = .bool ins ∧ kk = .int .i64 k) (fun _ _ i => s.size - (intOf i).toNat)
    case atStart => exact ⟨0, _, _, Nat.zero_le _, Lib.hid rfl, by decide, rfl, rfl, rfl⟩
    case round =>
      obtain ⟨k, out, ins, hk, HP, hos, rfl, rfl, rfl⟩ := hrel
      by_cases hlt : k < s.size
      · have dl : decide ((k : Int) < (s.size : Int)) = true := decide_eq_true (by omega)
        have dn : decide (k < s.size) = true := decide_eq_true hlt
        have hk1 : ((k : Int) + 1).toNat = k + 1 := by omega
        cases ins
        · by_cases hc : bb s k = 60
          · have e60 : (bb s k == 60) = true := beq_iff_eq.2 hc
            have HN := Lib.hid (plS_open HP.out hc)
            clear hc
            go_wp2_with (go_at_call 23; refine (specTextValid_any _ _ (by assumption)).mono ?_; rintro e w' ⟨rfl, rfl⟩)
            go_round
            case rel => exact ⟨k + 1, _, _, by omega, HN, by omega, rfl, rfl, by go_num⟩
            case measure => first | (simp [intOf]; done) | (simp [intOf]; omega)
          · have e60 : (bb s k == 60) = false := beq_eq_false_iff_ne.2 hc
            by_cases hx : bb s k = 62
            · have e62 : (bb s k == 62) = true := beq_iff_eq.2 hx
              clear hx
              have HN := Lib.hid (plS_out HP.out hc)
              clear hc
              go_wp2_with (go_at_call 23; refine (specTextValid_any _ _ (by assumption)).mono ?_; rintro e w' ⟨rfl, rfl⟩)
              go_round
              case rel => exact ⟨k + 1, _, _, by omega, HN, by rw [ByteArray.size_append, ByteArray.size_extract]; omega, rfl, rfl, by go_num⟩
              case measure => first | (simp [intOf]; done) | (simp [intOf]; omega)
            · have e62 : (bb s k == 62) = false := beq_eq_false_iff_ne.2 hx
              clear hx
              have HN := Lib.hid (plS_out HP.out hc)
              clear hc
              go_wp2_with (go_at_call 23; refine (specTextValid_any _ _ (by assumption)).mono ?_; rintro e w' ⟨rfl, rfl⟩)
              go_round
              case rel => exact ⟨k + 1, _, _, by omega, HN, by rw [ByteArray.size_append, ByteArray.size_extract]; omega, rfl, rfl, by go_num⟩
              case measure => first | (simp [intOf]; done) | (simp [intOf]; omega)
        · by_cases hc : bb s k = 62
          · have e62 : (bb s k == 62) = true := beq_iff_eq.2 hc
            have e60 : (bb s k == 60) = false := beq_eq_false_iff_ne.2 (by omega)
            have HN := Lib.hid (plS_shut HP.out hc)
            clear hc
            go_wp2_with (go_at_call 23; refine (specTextValid_any _ _ (by assumption)).mono ?_; rintro e w' ⟨rfl, rfl⟩)
            go_round
            case rel => exact ⟨k + 1, _, _, by omega, HN, by omega, rfl, rfl, by go_num⟩
            case measure => first | (simp [intOf]; done) | (simp [intOf]; omega)
          · have e62 : (bb s k == 62) = false := beq_eq_false_iff_ne.2 hc
            by_cases hx : bb s k = 60
            · have e60 : (bb s k == 60) = true := beq_iff_eq.2 hx
              clear hx
              have HN := Lib.hid (plS_ins HP.out hc)
              clear hc
              go_wp2_with (go_at_call 23; refine (specTextValid_any _ _ (by assumption)).mono ?_; rintro e w' ⟨rfl, rfl⟩)
              go_round
              case rel => exact ⟨k + 1, _, _, by omega, HN, by omega, rfl, rfl, by go_num⟩
              case measure => first | (simp [intOf]; done) | (simp [intOf]; omega)
            · have e60 : (bb s k == 60) = false := beq_eq_false_iff_ne.2 hx
              clear hx
              have HN := Lib.hid (plS_ins HP.out hc)
              clear hc
              go_wp2_with (go_at_call 23; refine (specTextValid_any _ _ (by assumption)).mono ?_; rintro e w' ⟨rfl, rfl⟩)
              go_round
              case rel => exact ⟨k + 1, _, _, by omega, HN, by omega, rfl, rfl, by go_num⟩
              case measure => first | (simp [intOf]; done) | (simp [intOf]; omega)
      · have dl : decide ((k : Int) < (s.size : Int)) = false := decide_eq_false (by omega)
        have dn : decide (k < s.size) = false := decide_eq_false hlt
        obtain rfl : k = s.size := by omega
        have HQ := Lib.hid (show plainOf s = out by rw [plainOf_yes HV.out, HP.out])
        go_wp2_with fail
        go_ret
        exact ⟨ret_st HQ.out.symm, rfl⟩
  · have hv' : textB s = false := by simpa using hv
    have HQ := Lib.hid (plainOf_no hv')
    clear hv
    go_enter Try.func29, Try.ntmps29
    go_wp2_with fail
    go_loop [3, 4, 5] (fun o i kk => o = .string { data := #[] } ∧ i = .bool false ∧ kk = .int .i64 (0 : Nat)) (fun _ _ _ => 0)
    case atStart => exact ⟨rfl, rfl, rfl⟩
    case round =>
      obtain ⟨rfl, rfl, rfl⟩ := hrel
      by_cases hlt : 0 < s.size
      · have dl : decide ((0 : Int) < (s.size : Int)) = true := decide_eq_true (by omega)
        have dn : decide (0 < s.size) = true := decide_eq_true hlt
        go_wp2_with (go_at_call 23; refine (specTextValid_any _ _ (by assumption)).mono ?_; rintro e w' ⟨rfl, rfl⟩)
        go_ret
        exact ⟨ret_st HQ.out.symm, rfl⟩
      · have dl : decide ((0 : Int) < (s.size : Int)) = false := decide_eq_false (by omega)
        have dn : decide (0 < s.size) = false := decide_eq_false hlt
        go_wp2_with fail
        go_ret
        exact ⟨ret_st HQ.out.symm, rfl⟩
set_option maxHeartbeats 1600000 in
theorem implPlainOf_any (s : ByteArray) (w : World) (hs : s.size ≤ maxLen) : Calls Try.prog 30 #[.string s] w fun e w' => e = .returned (.string (plainOf s)) ∧ w = w' := by
  by_cases hv : textB s = true
  · have h80 := (Text.of hv).1
    have HV := Lib.hid hv
    go_enter Try.func30, Try.ntmps30
    go_wp2_with (go_at_call 10; refine (implTextValid_any _ _ (by assumption)).mono ?_; rintro e w' ⟨rfl, rfl⟩)
    clear hv
    go_loop [0, 3, 4, 5] (fun rest o _ _ => ∃ (p : Nat) (out : ByteArray), p ≤ s.size ∧ Hid (plS s p = (out, false)) ∧ out.size ≤ p ∧ rest = .string (s.extract p s.size) ∧ o = .string out) (fun rest _ _ _ => strLen rest)
    case atStart => exact ⟨0, _, Nat.zero_le _, Lib.hid rfl, by decide, by rw [ByteArray.extract_zero_size], rfl⟩
    case round =>
      obtain ⟨p, out, hp, HP, hos, rfl, rfl⟩ := hrel
      have hsr : (s.extract p s.size).size + p = s.size := by rw [ByteArray.size_extract]; omega
      have HB : Hid (∀ k, p + k < s.size → bb (s.extract p s.size) k = bb s (p + k)) := Lib.hid (fun k hk => bb_extract (Nat.le_refl _) hk)
      generalize hrr : s.extract p s.size = r at *
      have HR := Lib.hid hrr
      clear hrr
      have HI := Lib.hid (ix_bb r 60)
      go_wp2_with fail
      refine (ixByte_any _ _ _).mono ?_
      rintro e w' ⟨rfl, rfl⟩
      rw [show (60 : Int).toNat.toUInt8 = 60 from rfl]
      rcases HI.out with ⟨h1, h2⟩ | ⟨a, ha, h1, h2, h3⟩
      · rw [h1]
        have HQ := Lib.hid (show plainOf s = out ++ r by
          have e := plS_run HP.out (n := s.size - p) (fun k k1 k2 => by
            have := h2 (k - p) (by omega)
            rw [HB.out (k - p) (by omega), show p + (k - p) = k by omega] at this
            exact this)
          rw [show p + (s.size - p) = s.size by omega] at e
          rw [plainOf_yes HV.out, e, HR.out])
        clear h1 h2 HI
        go_wp2_with fail
        go_ret
        exact ⟨ret_st HQ.out.symm, rfl⟩
      · rw [h1]
        have HP1 : Hid (plS s (p + a) = (out ++ r.extract 0 a, false)) := Lib.hid (by
          have e := plS_run HP.out (n := a) (fun k k1 k2 => by
            have := h3 (k - p) (by omega)
            rw [HB.out (k - p) (by omega), show p + (k - p) = k by omega] at this
            exact this)
          rw [e, ← HR.out, ext_ext (by omega)])
        have HP2 : Hid (plS s (p + a + 1) = (out ++ r.extract 0 a, true)) := Lib.hid (plS_open HP1.out (by rw [← HB.out a (by omega)]; exact h2))
        have hsz2 : (out ++ r.extract 0 a).size ≤ p + a := by rw [ByteArray.size_append, ByteArray.size_extract]; omega
        have HA := Lib.hid h2
        clear h1 h2 h3 HI
        have hsr2 : (r.extract a r.size).size + a = r.size := by rw [ByteArray.size_extract]; omega
        have HB2 : Hid (∀ k, a + k < r.size → bb (r.extract a r.size) k = bb s (p + (a + k))) := Lib.hid (fun k hk => by rw [bb_extract (Nat.le_refl _) hk, HB.out (a + k) (by omega)])
        have HI := Lib.hid (ix_bb (r.extract a r.size) 62)
        go_wp2_with fail
        refine (ixByte_any _ _ _).mono ?_
        rintro e w' ⟨rfl, rfl⟩
        rw [show (62 : Int).toNat.toUInt8 = 62 from rfl]
        rcases HI.out with ⟨h1, h2⟩ | ⟨b, hb, h1, h2, h3⟩
        · rw [h1]
          have HQ := Lib.hid (show plainOf s = out ++ r.extract 0 a by
            have e := plS_stay HP2.out (n := s.size - (p + a + 1)) (fun k k1 k2 => by
              have := h2 (k - (p + a)) (by omega)
              rw [HB2.out (k - (p + a)) (by omega), show p + (a + (k - (p + a))) = k by omega] at this
              exact this)
            rw [show p + a + 1 + (s.size - (p + a + 1)) = s.size by omega] at e
            rw [plainOf_yes HV.out, e])
          clear h1 h2 HI
          go_wp2_with fail
          go_ret
          exact ⟨ret_st HQ.out.symm, rfl⟩
        · rw [h1]
          have hb0 : 0 < b := by
            rcases Nat.eq_zero_or_pos b with q | q
            · exfalso
              subst q
              rw [HB2.out 0 (by omega), show p + (a + 0) = p + a by omega, ← HB.out a (by omega), HA.out] at h2
              exact absurd h2 (by decide)
            · exact q
          have HP3 : Hid (plS s (p + a + b + 1) = (out ++ r.extract 0 a, false)) := Lib.hid (by
            have e := plS_stay HP2.out (n := b - 1) (fun k k1 k2 => by
              have := h3 (k - (p + a)) (by omega)
              rw [HB2.out (k - (p + a)) (by omega), show p + (a + (k - (p + a))) = k by omega] at this
              exact this)
            rw [show p + a + 1 + (b - 1) = p + a + b by omega] at e
            refine plS_shut e ?_
            rw [show p + a + b = p + (a + b) by omega, ← HB2.out b (by omega)]
            exact h2)
          have HE : Hid (r.extract (a + b + 1) r.size = s.extract (p + a + b + 1) s.size) := Lib.hid (by
            rw [← HR.out, ext_ext2 (by omega)]
            congr 1; omega)
          have hi1 : ((a : Int) + (b : Int) + 1).toNat = a + b + 1 := by omega
          clear h1 h2 h3 HI
          go_wp2_with fail
          go_round
          case rel => exact ⟨p + a + b + 1, _, by omega, HP3, by omega, by rw [HE.out], rfl⟩
          case measure => simp only [strLen]; rw [ByteArray.size_extract]; omega
  · have hv' : textB s = false := by simpa using hv
    have HQ := Lib.hid (plainOf_no hv')
    clear hv
    go_enter Try.func30, Try.ntmps30
    go_wp2_with (go_at_call 10; refine (implTextValid_any _ _ (by assumption)).mono ?_; rintro e w' ⟨rfl, rfl⟩)
    go_ret
    exact ⟨ret_st HQ.out.symm, rfl⟩
end Go.Proofs.Ytnmgfpphihieiaa
