import Derived.Test.YtnplpllhochlfaaTombA
import Derived.Test.YtnplpllhochlfaaTombPlain2
namespace Go.Proofs.Ytnplpllhochlfaa
open Go.RowKit
set_option maxHeartbeats 800000 in
theorem implIsBuried_any (A : Option Addr) (cap B : Nat) (ts : List ElTomb) (key : ByteArray) (now : Int) (w : World) (h : RdE 2 encTomb w B A ts) (hB : B ≤ w.heap.size) (hl : ts.length ≤ 140737488351232) (hcap : ts.length ≤ cap) (hsz : ∀ k, k < ts.length → (gt ts k).1.size ≤ maxLen) :
    Calls Try.prog 12 #[.slice A ts.length cap, .string key, .int .i64 now] w fun e w' => e = .returned (.bool (buriedB ts key now)) ∧ Below w.heap.size w w' := by
  by_cases hv : tmB ts = true
  · go_enter Try.func12, Try.ntmps12
    go_wp2_with fail
    refine (implTombsValid_any _ _ B ts w h hB hl hcap hsz).mono ?_
    rintro e w1 ⟨rfl, hb1⟩
    have hs1 := hb1.size
    rcases tix_two (ts := ts) (key := key) with hix | ⟨k, hk, hix⟩
    · have hcall := tombOf_any A cap B ts key w1 (h.below (hb1.mono hB)) (Nat.le_trans hB hs1) hl
      rw [hix] at hcall
      have HX := Lib.hid hix
      clear hix
      go_wp2_with fail
      refine hcall.mono ?_
      clear hcall
      rintro e w2 ⟨rfl, hb2⟩
      have hb2w := hb1.trans (hb2.mono hs1)
      have HE := Lib.hid (buriedB_none (now := now) HX.out)
      go_wp2_with fail
      go_ret
      exact ⟨ret_bool HE.out.symm, hb2w⟩
    · have hcall := tombOf_any A cap B ts key w1 (h.below (hb1.mono hB)) (Nat.le_trans hB hs1) hl
      rw [hix] at hcall
      have HX := Lib.hid hix
      clear hix
      go_wp2_with fail
      refine hcall.mono ?_
      clear hcall
      rintro e w2 ⟨rfl, hb2⟩
      have hb2w := hb1.trans (hb2.mono hs1)
      have hwn := tm_when hv hk
      obtain ⟨b, off, rfl, hb, hc⟩ := (h.below (hb2w.mono hB)).at_ (by omega)
      have c1 : w2.cell? ⟨b, off + k * 2 + 1, none⟩ = some (Value.int .i64 (gt ts k).2) := hc k 1 (by omega) (by omega)
      clear hc
      have HE := Lib.hid (buriedB_at (now := now) hv HX.out)
      have k0 : decide ((0 : Int) ≤ (k : Int)) = true := decide_eq_true (by omega)
      go_wp2_with fail
      go_ret
      exact ⟨ret_bool HE.out.symm, hb2w⟩
  · have hv' : tmB ts = false := by simpa using hv
    have HE := Lib.hid (buriedB_bad (key := key) (now := now) hv')
    clear hv
    go_enter Try.func12, Try.ntmps12
    go_wp2_with fail
    refine (implTombsValid_any _ _ B ts w h hB hl hcap hsz).mono ?_
    rintro e w1 ⟨rfl, hb1⟩
    go_wp2_with fail
    go_ret
    exact ⟨ret_bool HE.out.symm, hb1⟩
set_option maxHeartbeats 800000 in
theorem specIsBuried_any (A : Option Addr) (cap B : Nat) (ts : List ElTomb) (key : ByteArray) (now : Int) (w : World) (h : RdE 2 encTomb w B A ts) (hB : B ≤ w.heap.size) (hl : ts.length ≤ 140737488351232) (hsz : ∀ k, k < ts.length → (gt ts k).1.size ≤ maxLen) :
    Calls Try.prog 28 #[.slice A ts.length cap, .string key, .int .i64 now] w fun e w' => e = .returned (.bool (buriedB ts key now)) ∧ Below w.heap.size w w' := by
  by_cases hv : tmB ts = true
  · have HSZ := Lib.hid hsz
    clear hsz
    go_enter Try.func28, Try.ntmps28
    go_wp2_with fail
    go_loopw [7] (fun i wr => ∃ k : Nat, k ≤ ts.length ∧ i = .int .i64 k ∧ Hid (∀ j, j < k → isT key (gt ts j) = false) ∧ Below w.heap.size w wr) (fun i _ => ts.length - (intOf i).toNat)
    case atStart => exact ⟨0, Nat.zero_le _, rfl, Lib.hid (fun j hj => absurd hj (by omega)), Below.refl _ _⟩
    case round =>
      obtain ⟨k, hk, rfl, hno, hbl⟩ := hrel
      by_cases hlt : k < ts.length
      · have k1 : decide ((k : Int) < (ts.length : Int)) = true := by simp [hlt]
        have k2 : decide (k < ts.length) = true := by simp [hlt]
        go_wp2_with fail
        refine (specTombsValid_any _ _ B ts wr (h.below (hbl.mono hB)) (Nat.le_trans hB hbl.size) hl HSZ.out).mono ?_
        rintro e w1 ⟨rfl, hb1⟩
        have hbl1 := hbl.trans (hb1.mono hbl.size)
        have hwn := tm_when hv hlt
        obtain ⟨b, off, rfl, hb, hc⟩ := (h.below (hbl1.mono hB)).at_ (by omega)
        have c0 : w1.cell? ⟨b, off + k * 2, none⟩ = some (Value.string (gt ts k).1) := hc k 0 (by omega) (by omega)
        have c1 : w1.cell? ⟨b, off + k * 2 + 1, none⟩ = some (Value.int .i64 (gt ts k).2) := hc k 1 (by omega) (by omega)
        clear hc
        by_cases hq : isT key (gt ts k) = true
        · have q0 : ((gt ts k).1.toList == key.toList) = true := by rw [seq_eql]; exact hq
          have HE := Lib.hid (buriedB_at (now := now) hv (ix_at hlt hno.out hq))
          clear hq
          go_wp2_with fail
          go_ret
          exact ⟨ret_bool HE.out.symm, hbl1⟩
        · have hqf : isT key (gt ts k) = false := by simpa using hq
          have q0 : ((gt ts k).1.toList == key.toList) = false := by rw [seq_eql]; exact hqf
          have HN : Hid (∀ j, j < k + 1 → isT key (gt ts j) = false) := Lib.hid (fun j hj => by
            rcases Nat.lt_succ_iff_lt_or_eq.1 hj with h1 | rfl
            · exact hno.out j h1
            · exact hqf)
          clear hq hqf
          go_wp2_with fail
          go_roundw
          case rel => exact ⟨k + 1, by omega, by go_num, HN, hbl1⟩
          case measure => simp [intOf]; omega
      · obtain rfl : k = ts.length := by omega
        have HE := Lib.hid (buriedB_none (now := now) (ix_none hno.out))
        go_wp2_with fail
        go_ret
        exact ⟨ret_bool HE.out.symm, hbl⟩
  · have hv' : tmB ts = false := by simpa using hv
    have HE := Lib.hid (buriedB_bad (key := key) (now := now) hv')
    have hpos : 0 < ts.length := by
      rcases Nat.eq_zero_or_pos ts.length with h0 | h0
      · rw [List.eq_nil_of_length_eq_zero h0] at hv'; cases hv'
      · exact h0
    have k1 : decide ((0 : Int) < (ts.length : Int)) = true := decide_eq_true (by omega)
    clear hv
    go_enter Try.func28, Try.ntmps28
    go_wp2_with fail
    refine wp_loop_rounds 1 ?_
    rw [rounds_succ]
    go_wp2_with fail
    refine (specTombsValid_any _ _ B ts w h hB hl hsz).mono ?_
    rintro e w1 ⟨rfl, hb1⟩
    go_wp2_with fail
    go_ret
    exact ⟨ret_bool HE.out.symm, hb1⟩
end Go.Proofs.Ytnplpllhochlfaa
