/- Feeds, walked. -/
import Derived.Test.YtfnmlffpnmmcdaaFeedPlain
import Derived.Test.YtfnmlffpnmmcdaaRegB
import Derived.Test.YtfnmlffpnmmcdaaTail
namespace Go.Proofs.Ytfnmlffpnmmcdaa
open Go.RowKit
set_option maxHeartbeats 400000 in
theorem itemNumber_any (A : Option Addr) (cap B : Nat) (xs : List ElItem) (key : ByteArray) (w : World) (h : RdE 4 encItem w B A xs) (hB : B ≤ w.heap.size) (hl : xs.length ≤ 140737488351232) :
    Calls Try.prog 38 #[.slice A xs.length cap, .string key] w fun e w' => e = .returned (.int .i64 (itemIx xs key)) ∧ Below w.heap.size w w' := by
  go_enter Try.func38, Try.ntmps38
  go_wp2_with fail
  go_loopw [9] (fun i wr => ∃ k : Nat, k ≤ xs.length ∧ Hid (∀ j, j < k → isI key (gt xs j) = false) ∧ i = .int .i64 k ∧ Below w.heap.size w wr) (fun i _ => xs.length - (intOf i).toNat)
  case atStart => exact ⟨0, Nat.zero_le _, Lib.hid (fun j hj => absurd hj (by omega)), rfl, Below.refl _ _⟩
  case round =>
    obtain ⟨k, hk, hno, rfl, hbl⟩ := hrel
    by_cases hlt : k < xs.length
    · obtain ⟨b, off, rfl, hb, hc⟩ := (h.below (hbl.mono hB)).at_ (by omega)
      have e0 : (wr.alloc (.cells #[Value.string (gt xs k).1, Value.string (gt xs k).2.1, Value.string (gt xs k).2.2.1, Value.int .i64 (gt xs k).2.2.2] 68)).cell? ⟨wr.heap.size, 0, none⟩ = some (Value.string (gt xs k).1) := by rw [World.cell?_alloc_at _ _ _ _ rfl]; rfl
      have e1 : (wr.alloc (.cells #[Value.string (gt xs k).1, Value.string (gt xs k).2.1, Value.string (gt xs k).2.2.1, Value.int .i64 (gt xs k).2.2.2] 68)).cell? ⟨wr.heap.size, 1, none⟩ = some (Value.string (gt xs k).2.1) := by rw [World.cell?_alloc_at _ _ _ _ rfl]; rfl
      have e2 : (wr.alloc (.cells #[Value.string (gt xs k).1, Value.string (gt xs k).2.1, Value.string (gt xs k).2.2.1, Value.int .i64 (gt xs k).2.2.2] 68)).cell? ⟨wr.heap.size, 2, none⟩ = some (Value.string (gt xs k).2.2.1) := by rw [World.cell?_alloc_at _ _ _ _ rfl]; rfl
      have e3 : (wr.alloc (.cells #[Value.string (gt xs k).1, Value.string (gt xs k).2.1, Value.string (gt xs k).2.2.1, Value.int .i64 (gt xs k).2.2.2] 68)).cell? ⟨wr.heap.size, 3, none⟩ = some (Value.int .i64 (gt xs k).2.2.2) := by rw [World.cell?_alloc_at _ _ _ _ rfl]; rfl
      have c0 : wr.cell? ⟨b, off + k * 4, none⟩ = some (Value.string (gt xs k).1) := hc k 0 (by omega) (by omega)
      have c1 : wr.cell? ⟨b, off + k * 4 + 1, none⟩ = some (Value.string (gt xs k).2.1) := hc k 1 (by omega) (by omega)
      have c2 : wr.cell? ⟨b, off + k * 4 + 2, none⟩ = some (Value.string (gt xs k).2.2.1) := hc k 2 (by omega) (by omega)
      have c3 : wr.cell? ⟨b, off + k * 4 + 3, none⟩ = some (Value.int .i64 (gt xs k).2.2.2) := hc k 3 (by omega) (by omega)
      clear hc
      by_cases hq : isI key (gt xs k) = true
      · have q0 : ((gt xs k).1.toList == key.toList) = true := by rw [seq_eql]; exact hq
        have HQ := Lib.hid (ix_at hlt hno.out hq)
        clear hq
        go_wp2_with fail
        go_ret
        exact ⟨ret_int HQ.out.symm, hbl.alloc hbl.size _⟩
      · have hq' : isI key (gt xs k) = false := by simpa using hq
        have q0 : ((gt xs k).1.toList == key.toList) = false := by rw [seq_eql]; exact hq'
        clear hq
        go_wp2_with fail
        go_roundw
        case rel => exact ⟨k + 1, by omega, Lib.hid (fun j hj => by
          rcases Nat.lt_succ_iff_lt_or_eq.1 hj with h1 | rfl
          · exact hno.out j h1
          · exact hq'), by go_num, hbl.alloc hbl.size _⟩
        case measure => simp [intOf]; omega
    · obtain rfl : k = xs.length := by omega
      go_wp2_with fail
      go_ret
      exact ⟨ret_int (ix_none hno.out).symm, hbl⟩
set_option maxHeartbeats 1600000 in
theorem specFeedValid_any (A : Option Addr) (cap B : Nat) (xs : List ElItem) (w : World) (h : RdE 4 encItem w B A xs) (hB : B ≤ w.heap.size) (hl : xs.length ≤ 140737488351232) (hsz : ∀ k, k < xs.length → (gt xs k).1.size ≤ maxLen ∧ (gt xs k).2.1.size ≤ maxLen ∧ (gt xs k).2.2.1.size ≤ maxLen) :
    Calls Try.prog 19 #[.slice A xs.length cap] w fun e w' => e = .returned (.bool (fdB xs)) ∧ Below w.heap.size w w' := by
  have HD := Lib.hid hsz
  clear hsz
  go_enter Try.func19, Try.ntmps19
  go_wp2_with fail
  go_loopw [3, 4] (fun i _ wr => ∃ k : Nat, k ≤ xs.length ∧ Hid (upTo OkI xs k) ∧ i = .int .i64 k ∧ Below w.heap.size w wr) (fun i _ _ => xs.length - (intOf i).toNat)
  case atStart => exact ⟨0, Nat.zero_le _, Lib.hid upTo_zero, rfl, Below.refl _ _⟩
  case round =>
    obtain ⟨k, hk, hok, rfl, hbl⟩ := hrel
    have hsw := hbl.size
    by_cases hlt : k < xs.length
    · obtain ⟨z0, z1, z2⟩ := HD.out k hlt
      obtain ⟨b, off, rfl, hb, hc⟩ := (h.below (hbl.mono hB)).at_ (by omega)
      have c0 : wr.cell? ⟨b, off + k * 4, none⟩ = some (Value.string (gt xs k).1) := hc k 0 (by omega) (by omega)
      have c1 : wr.cell? ⟨b, off + k * 4 + 1, none⟩ = some (Value.string (gt xs k).2.1) := hc k 1 (by omega) (by omega)
      have c2 : wr.cell? ⟨b, off + k * 4 + 2, none⟩ = some (Value.string (gt xs k).2.2.1) := hc k 2 (by omega) (by omega)
      have c3 : wr.cell? ⟨b, off + k * 4 + 3, none⟩ = some (Value.int .i64 (gt xs k).2.2.2) := hc k 3 (by omega) (by omega)
      have HC := Lib.hid hc
      clear hc
      by_cases hv : ivB (gt xs k) = true
      · have HV := Lib.hid hv
        go_wp2_with fail
        refine (specItemValid_any (gt xs k).1 (gt xs k).2.1 (gt xs k).2.2.1 (gt xs k).2.2.2 wr z0 z1 z2).mono ?_
        rintro e w1 ⟨rfl, hb1⟩
        have hs1 := hb1.size
        have hbl1 := hbl.trans (hb1.mono hsw)
        rw [show ivB ((gt xs k).1, (gt xs k).2.1, (gt xs k).2.2.1, (gt xs k).2.2.2) = true from hv]
        have f0 := cellOn c0 (by show b < _; omega) hb1
        clear hv c0 c1 c2 c3
        go_wp2_with fail
        obtain ⟨wo, rfl⟩ : ∃ wo : World, wo = w1 := ⟨_, rfl⟩
        have hblo := hbl1
        have HCo : Hid (∀ (k i : Nat), k < xs.length → i < 4 → wo.cell? ⟨b, off + (k * 4 + i), none⟩ = some (encItem (gt xs k) i)) := Lib.hid (fun q i hq hi => cellOn (HC.out q i hq hi) (by show b < _; omega) hb1)
        have hbsz : b < wo.heap.size := by omega
        clear HC hbl hbl1 hb1 f0
        go_loopw [4] (fun i wr => ∃ j : Nat, j ≤ k ∧ Hid (∀ q, q < j → (gt xs q).1 ≠ (gt xs k).1) ∧ i = .int .i64 j ∧ Below wo.heap.size wo wr) (fun i _ => k - (intOf i).toNat)
        case atStart => exact ⟨0, Nat.zero_le _, Lib.hid (fun j hj => absurd hj (by omega)), rfl, Below.refl _ _⟩
        case round =>
          obtain ⟨j, hj, hdj, rfl, hbi⟩ := hrel
          have hbw := hblo.trans (hbi.mono hblo.size)
          by_cases hjk : j < k
          · have d0 : wr.cell? ⟨b, off + j * 4, none⟩ = some (Value.string (gt xs j).1) := (hbi.cell (by exact hbsz)).trans (HCo.out j 0 (by omega) (by omega))
            have d1 : wr.cell? ⟨b, off + k * 4, none⟩ = some (Value.string (gt xs k).1) := (hbi.cell (by exact hbsz)).trans (HCo.out k 0 (by omega) (by omega))
            have hjl : j < xs.length := by omega
            by_cases hq : (gt xs j).1 = (gt xs k).1
            · have q0 : ((gt xs j).1.toList == (gt xs k).1.toList) = true := by rw [seq_eql]; exact seq_true.2 hq
              have HQ := Lib.hid (vdB_bad (Ok := OkI) (mx := 8) hlt (fun hk => hk.2 j hjk hq))
              clear hq
              go_wp2_with fail
              go_quiet (fail)
              go_wp2_with fail
              go_ret
              exact ⟨ret_bool HQ.out.symm, below_drewN hbw _⟩
            · have q0 : ((gt xs j).1.toList == (gt xs k).1.toList) = false := by rw [seq_eql]; exact seq_false.2 hq
              have HJ : Hid (∀ q, q < j + 1 → (gt xs q).1 ≠ (gt xs k).1) := Lib.hid (fun q hq1 => by
                rcases Nat.lt_succ_iff_lt_or_eq.1 hq1 with h1 | rfl
                · exact hdj.out q h1
                · exact hq)
              clear hq
              go_wp2_with fail
              go_quiet (fail)
              go_wp2_with fail
              go_roundw
              case rel => exact ⟨j + 1, by omega, HJ, by go_num, below_drewN hbi _⟩
              case measure => simp [intOf]; omega
          · obtain rfl : j = k := by omega
            have HN := Lib.hid (upTo_succ hok.out ⟨HV.out, hdj.out⟩)
            go_wp2_with fail
            go_roundw
            case rel => exact ⟨j + 1, by omega, HN, by go_num, hbw⟩
            case measure => simp [intOf]; omega
      · have hv' : ivB (gt xs k) = false := by simpa using hv
        have HQ := Lib.hid (vdB_bad (Ok := OkI) (mx := 8) hlt (fun hk => hv hk.1))
        clear hv
        go_wp2_with fail
        refine (specItemValid_any (gt xs k).1 (gt xs k).2.1 (gt xs k).2.2.1 (gt xs k).2.2.2 wr z0 z1 z2).mono ?_
        rintro e w1 ⟨rfl, hb1⟩
        rw [show ivB ((gt xs k).1, (gt xs k).2.1, (gt xs k).2.2.1, (gt xs k).2.2.2) = false from hv']
        go_wp2_with fail
        go_ret
        exact ⟨ret_bool HQ.out.symm, hbl.trans (hb1.mono hsw)⟩
    · obtain rfl : k = xs.length := by omega
      have HQ := Lib.hid (vdB_all (mx := 8) hok.out)
      go_wp2_with fail
      go_ret
      exact ⟨ret_bool HQ.out, hbl⟩
end Go.Proofs.Ytfnmlffpnmmcdaa
