import Derived.Test.YtgogkdenolkfjaaReportA
import Derived.Test.YtgogkdenolkfjaaReportPlain2
namespace Go.Proofs.Ytgogkdenolkfjaa
open Go.RowKit
set_option maxHeartbeats 1600000 in
theorem implNextReport_any (A : Option Addr) (cap B : Nat) (rs : List ElReport) (w : World) (h : RdE 3 encReport w B A rs) (hB : B ≤ w.heap.size) (hl : rs.length ≤ 140737488351232) (hcap : rs.length ≤ cap) (hsz : ∀ k, k < rs.length → (gt rs k).1.size ≤ maxLen) :
    Calls Try.prog 17 #[.slice A rs.length cap] w fun e w' => e = .returned (.string (nextOf rs)) ∧ Below w.heap.size w w' := by
  by_cases hv : rvB rs = true
  · have h8 := rv_len hv
    go_enter Try.func17, Try.ntmps17
    go_wp2_with fail
    refine (implReportsValid_any _ _ B rs w h hB hl hcap hsz).mono ?_
    rintro e w1 ⟨rfl, hb1⟩
    go_wp2_with fail
    go_loopw [3, 4, 12] (fun s m i wr => ∃ k : Nat, k ≤ rs.length ∧ i = .int .i64 k ∧ s = .string (wordAt rs (bestTo rs k)) ∧ m = .int .i64 (manyAt rs (bestTo rs k)) ∧ Below w.heap.size w wr) (fun _ _ i _ => rs.length - (intOf i).toNat)
    case atStart => exact ⟨0, Nat.zero_le _, rfl, rfl, rfl, hb1⟩
    case round =>
      obtain ⟨k, hk, rfl, rfl, rfl, hbl⟩ := hrel
      clear hb1
      have hrng := manyAt_rng hv hk
      by_cases hlt : k < rs.length
      · obtain ⟨b, off, rfl, hb, hc⟩ := (h.below (hbl.mono hB)).at_ (by omega)
        have e0 : (wr.alloc (.cells #[.string (gt rs k).1, .int .i64 (gt rs k).2.1, .bool (gt rs k).2.2] 34)).cell? ⟨wr.heap.size, 0, none⟩ = some (Value.string (gt rs k).1) := by rw [World.cell?_alloc_at _ _ _ _ rfl]; rfl
        have e1 : (wr.alloc (.cells #[.string (gt rs k).1, .int .i64 (gt rs k).2.1, .bool (gt rs k).2.2] 34)).cell? ⟨wr.heap.size, 1, none⟩ = some (Value.int .i64 (gt rs k).2.1) := by rw [World.cell?_alloc_at _ _ _ _ rfl]; rfl
        have e2 : (wr.alloc (.cells #[.string (gt rs k).1, .int .i64 (gt rs k).2.1, .bool (gt rs k).2.2] 34)).cell? ⟨wr.heap.size, 2, none⟩ = some (Value.bool (gt rs k).2.2) := by rw [World.cell?_alloc_at _ _ _ _ rfl]; rfl
        have c0 : wr.cell? ⟨b, off + k * 3, none⟩ = some (Value.string (gt rs k).1) := hc k 0 (by omega) (by omega)
        have c1 : wr.cell? ⟨b, off + k * 3 + 1, none⟩ = some (Value.int .i64 (gt rs k).2.1) := hc k 1 (by omega) (by omega)
        have c2 : wr.cell? ⟨b, off + k * 3 + 2, none⟩ = some (Value.bool (gt rs k).2.2) := hc k 2 (by omega) (by omega)
        clear hc
        have hbl2 := hbl.alloc hbl.size (.cells #[.string (gt rs k).1, .int .i64 (gt rs k).2.1, .bool (gt rs k).2.2] 34)
        cases hd : (gt rs k).2.2
        · by_cases hm : manyAt rs (bestTo rs k) < (gt rs k).2.1
          · have hmd : decide (manyAt rs (bestTo rs k) < (gt rs k).2.1) = true := by simp [hm]
            have HN := Lib.hid (best_yes hd hm)
            have HS := Lib.hid (wordAt_nat rs k)
            have HM := Lib.hid (show manyAt rs (k : Int) = (gt rs k).2.1 by unfold manyAt; rw [if_neg (by omega), Int.toNat_natCast])
            rw [hd] at e0 e1 e2 c2 hbl2
            clear hd hm
            go_wp2_with fail
            go_quiet (fail)
            go_wp2_with fail
            go_roundw
            case rel => exact ⟨k + 1, by omega, by go_num, by rw [HN.out, HS.out], by rw [HN.out, HM.out], below_drewN hbl2 _⟩
            case measure => simp [intOf]; omega
          · have hmd : decide (manyAt rs (bestTo rs k) < (gt rs k).2.1) = false := by simp; omega
            have HN := Lib.hid (best_no hv hlt (.inr (by omega)))
            rw [hd] at e0 e1 e2 c2 hbl2
            clear hd hm
            go_wp2_with fail
            go_roundw
            case rel => exact ⟨k + 1, by omega, by go_num, by rw [HN.out], by rw [HN.out], hbl2⟩
            case measure => simp [intOf]; omega
        · have HN := Lib.hid (best_no hv hlt (.inl hd))
          rw [hd] at e0 e1 e2 c2 hbl2
          clear hd
          go_wp2_with fail
          go_roundw
          case rel => exact ⟨k + 1, by omega, by go_num, by rw [HN.out], by rw [HN.out], hbl2⟩
          case measure => simp [intOf]; omega
      · obtain rfl : k = rs.length := by omega
        have HE := Lib.hid (nextOf_yes hv)
        go_wp2_with fail
        go_ret
        exact ⟨ret_str HE.out.symm, hbl⟩
  · have hv' : rvB rs = false := by simpa using hv
    have HE := Lib.hid (nextOf_no hv')
    clear hv
    go_enter Try.func17, Try.ntmps17
    go_wp2_with fail
    refine (implReportsValid_any _ _ B rs w h hB hl hcap hsz).mono ?_
    rintro e w1 ⟨rfl, hb1⟩
    go_wp2_with fail
    go_ret
    exact ⟨ret_str HE.out.symm, hb1⟩
set_option maxHeartbeats 1600000 in
theorem specNextReport_any (A : Option Addr) (cap B : Nat) (rs : List ElReport) (w : World) (h : RdE 3 encReport w B A rs) (hB : B ≤ w.heap.size) (hl : rs.length ≤ 140737488351232) (hsz : ∀ k, k < rs.length → (gt rs k).1.size ≤ maxLen) :
    Calls Try.prog 16 #[.slice A rs.length cap] w fun e w' => e = .returned (.string (nextOf rs)) ∧ Below w.heap.size w w' := by
  by_cases hv : rvB rs = true
  · have h8 := rv_len hv
    have HSZ := Lib.hid hsz
    clear hsz
    go_enter Try.func16, Try.ntmps16
    go_wp2_with fail
    go_loopw [3, 4] (fun m i wr => ∃ k : Nat, k ≤ rs.length ∧ i = .int .i64 k ∧ m = .int .i64 (bestTo rs k) ∧ Below w.heap.size w wr) (fun _ i _ => rs.length - (intOf i).toNat)
    case atStart => exact ⟨0, Nat.zero_le _, rfl, rfl, Below.refl _ _⟩
    case round =>
      obtain ⟨k, hk, rfl, rfl, hbl⟩ := hrel
      have hrng := bestTo_rng rs k
      by_cases hlt : k < rs.length
      · have k1 : decide ((k : Int) < (rs.length : Int)) = true := by simp [hlt]
        have k2 : decide (k < rs.length) = true := by simp [hlt]
        go_wp2_with fail
        refine (specReportsValid_any _ _ B rs wr (h.below (hbl.mono hB)) (Nat.le_trans hB hbl.size) hl HSZ.out).mono ?_
        rintro e w1 ⟨rfl, hb1⟩
        have hbl1 := hbl.trans (hb1.mono hbl.size)
        obtain ⟨b, off, rfl, hb, hc⟩ := (h.below (hbl1.mono hB)).at_ (by omega)
        have c1 : w1.cell? ⟨b, off + k * 3 + 1, none⟩ = some (Value.int .i64 (gt rs k).2.1) := hc k 1 (by omega) (by omega)
        have c2 : w1.cell? ⟨b, off + k * 3 + 2, none⟩ = some (Value.bool (gt rs k).2.2) := hc k 2 (by omega) (by omega)
        cases hd : (gt rs k).2.2
        · by_cases h0 : bestTo rs k < 0
          · have z0 : decide (bestTo rs k < 0) = true := by simp [h0]
            have HN := Lib.hid (show bestTo rs (k + 1) = k by rw [bestTo, if_pos ⟨hd, .inl h0⟩])
            rw [hd] at c2
            clear hd h0 hc
            go_wp2_with fail
            go_quiet (fail)
            go_wp2_with fail
            go_roundw
            case rel => exact ⟨k + 1, by omega, by go_num, by rw [HN.out], below_drewN hbl1 _⟩
            case measure => simp [intOf]; omega
          · have z0 : decide (bestTo rs k < 0) = false := by simp; omega
            obtain ⟨q, hq⟩ := Int.eq_ofNat_of_zero_le (show 0 ≤ bestTo rs k by omega)
            have d1 : w1.cell? ⟨b, off + q * 3 + 1, none⟩ = some (Value.int .i64 (gt rs q).2.1) := hc q 1 (by omega) (by omega)
            by_cases hm : (gt rs q).2.1 < (gt rs k).2.1
            · have hmd : decide ((gt rs q).2.1 < (gt rs k).2.1) = true := by simp [hm]
              have HN := Lib.hid (show bestTo rs (k + 1) = k by rw [bestTo, if_pos ⟨hd, .inr (by rw [hq, Int.toNat_natCast]; exact hm)⟩])
              rw [hd] at c2
              have hqk : q < rs.length := by omega
              have hq0 : (0 : Int) ≤ (q : Int) := by omega
              rw [hq] at z0 ⊢
              clear hd h0 hc hm hrng hq
              go_wp2_with fail
              go_quiet (fail)
              go_wp2_with fail
              go_roundw
              case rel => exact ⟨k + 1, by omega, by go_num, by rw [HN.out], below_drewN hbl1 _⟩
              case measure => simp [intOf]; omega
            · have hmd : decide ((gt rs q).2.1 < (gt rs k).2.1) = false := by simp; omega
              have HN := Lib.hid (show bestTo rs (k + 1) = q by rw [bestTo, if_neg (by rintro ⟨_, h2⟩; rw [hq, Int.toNat_natCast] at h2; omega), hq])
              rw [hd] at c2
              have hqk : q < rs.length := by omega
              have hq0 : (0 : Int) ≤ (q : Int) := by omega
              rw [hq] at z0 ⊢
              clear hd h0 hc hm hrng hq
              go_wp2_with fail
              go_quiet (fail)
              go_wp2_with fail
              go_roundw
              case rel => exact ⟨k + 1, by omega, by go_num, by rw [HN.out], below_drewN hbl1 _⟩
              case measure => simp [intOf]; omega
        · have HN := Lib.hid (best_no hv hlt (.inl hd))
          rw [hd] at c2
          clear hd hc
          go_wp2_with fail
          go_quiet (fail)
          go_wp2_with fail
          go_roundw
          case rel => exact ⟨k + 1, by omega, by go_num, by rw [HN.out], below_drewN hbl1 _⟩
          case measure => simp [intOf]; omega
      · obtain rfl : k = rs.length := by omega
        by_cases h0 : bestTo rs rs.length < 0
        · have z0 : decide (bestTo rs rs.length < 0) = true := by simp [h0]
          have HE := Lib.hid (nextOf_none hv h0)
          go_wp2_with fail
          go_ret
          exact ⟨ret_str HE.out.symm, hbl⟩
        · have z0 : decide (bestTo rs rs.length < 0) = false := by simp; omega
          obtain ⟨q, hq⟩ := Int.eq_ofNat_of_zero_le (show 0 ≤ bestTo rs rs.length by omega)
          have hqk : q < rs.length := by omega
          obtain ⟨b, off, rfl, hb, hc⟩ := (h.below (hbl.mono hB)).at_ (by omega)
          have d0 : wr.cell? ⟨b, off + q * 3, none⟩ = some (Value.string (gt rs q).1) := hc q 0 (by omega) (by omega)
          have HE := Lib.hid (nextOf_best hv hq)
          rw [hq] at z0 ⊢
          clear h0 hc hrng hq
          go_wp2_with fail
          go_ret
          exact ⟨ret_str HE.out.symm, hbl⟩
  · have hv' : rvB rs = false := by simpa using hv
    have HE := Lib.hid (nextOf_no hv')
    have hpos : 0 < rs.length := by
      rcases Nat.eq_zero_or_pos rs.length with h0 | h0
      · rw [List.eq_nil_of_length_eq_zero h0] at hv'; cases hv'
      · exact h0
    have k1 : decide ((0 : Int) < (rs.length : Int)) = true := decide_eq_true (by omega)
    clear hv
    go_enter Try.func16, Try.ntmps16
    go_wp2_with fail
    refine wp_loop_rounds 1 ?_
    rw [rounds_succ]
    go_wp2_with fail
    refine (specReportsValid_any _ _ B rs w h hB hl hsz).mono ?_
    rintro e w1 ⟨rfl, hb1⟩
    go_wp2_with fail
    go_ret
    exact ⟨ret_str HE.out.symm, hb1⟩
end Go.Proofs.Ytgogkdenolkfjaa
