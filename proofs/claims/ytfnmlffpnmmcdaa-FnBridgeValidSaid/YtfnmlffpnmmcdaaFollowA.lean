import Derived.Test.YtfnmlffpnmmcdaaFollowPlain
import Derived.Test.YtfnmlffpnmmcdaaHandleV
import Derived.Test.YtfnmlffpnmmcdaaRegB
namespace Go.Proofs.Ytfnmlffpnmmcdaa
open Go.RowKit
theorem ltS_eq (a b : ByteArray) : Op.bytesLess a.toList b.toList = ltS a b := rfl
theorem implHandleBefore_any (a b c d : ByteArray) (w : World) : Calls Try.prog 39 #[.agg #[.string a, .string b], .agg #[.string c, .string d]] w fun e w' => e = .returned (.bool (hbB (a, b) (c, d))) ∧ Below w.heap.size w w' := by
  cases hq : seq b d
  · have d1 : (b.toList == d.toList) = false := by rw [seq_eql, hq]
    have HQ := Lib.hid (hbB_ne (p := (a, b)) (q := (c, d)) hq)
    clear hq
    go_enter Try.func39, Try.ntmps39
    go_wp2
    go_ret
    exact ⟨ret_bool (HQ.out.symm), (((Below.refl _ _).alloc (Nat.le_refl _) _).alloc (by simp) _)⟩
  · have d1 : (b.toList == d.toList) = true := by rw [seq_eql, hq]
    have HQ := Lib.hid (hbB_eq (p := (a, b)) (q := (c, d)) hq)
    clear hq
    go_enter Try.func39, Try.ntmps39
    go_wp2
    go_ret
    exact ⟨ret_bool (HQ.out.symm), (((Below.refl _ _).alloc (Nat.le_refl _) _).alloc (by simp) _)⟩
theorem specHandleBefore_any (a b c d : ByteArray) (w : World) : Calls Try.prog 42 #[.agg #[.string a, .string b], .agg #[.string c, .string d]] w fun e w' => e = .returned (.bool (hbB (a, b) (c, d))) ∧ Below w.heap.size w w' := by
  cases hl : ltS b d
  · have d0 : Op.bytesLess b.toList d.toList = false := hl
    cases hq : seq b d
    · have d1 : (b.toList == d.toList) = false := by rw [seq_eql, hq]
      have HQ := Lib.hid ((hbB_ne (p := (a, b)) (q := (c, d)) hq).trans hl)
      clear hq hl
      go_enter Try.func42, Try.ntmps42
      go_wp2
      go_ret
      exact ⟨ret_bool (HQ.out.symm), (((Below.refl _ _).alloc (Nat.le_refl _) _).alloc (by simp) _)⟩
    · have d1 : (b.toList == d.toList) = true := by rw [seq_eql, hq]
      have HQ := Lib.hid (hbB_eq (p := (a, b)) (q := (c, d)) hq)
      clear hq hl
      go_enter Try.func42, Try.ntmps42
      go_wp2
      go_ret
      exact ⟨ret_bool (HQ.out.symm), (((Below.refl _ _).alloc (Nat.le_refl _) _).alloc (by simp) _)⟩
  · have d0 : Op.bytesLess b.toList d.toList = true := hl
    have HQ := Lib.hid (hbB_true (p := (a, b)) (q := (c, d)) (.inl hl))
    clear hl
    go_enter Try.func42, Try.ntmps42
    go_wp2
    go_ret
    exact ⟨ret_bool (HQ.out.symm), (((Below.refl _ _).alloc (Nat.le_refl _) _).alloc (by simp) _)⟩
set_option maxRecDepth 100000 in
set_option maxHeartbeats 1600000 in
theorem implFollowersValid_any (A : Option Addr) (cap B : Nat) (fs : List ElHandle) (w : World) (h : RdE 2 encHandle w B A fs) (hB : B ≤ w.heap.size) (hl : fs.length ≤ 140737488351232) (hsz : ∀ k, k < fs.length → (gt fs k).1.size ≤ maxLen ∧ (gt fs k).2.size ≤ maxLen) :
    Calls Try.prog 16 #[.slice A fs.length cap] w fun e w' => e = .returned (.bool (fvB fs)) ∧ Below w.heap.size w w' := by
  have HD := Lib.hid hsz
  clear hsz
  by_cases hlen : fs.length ≤ 10
  · have hd : decide (10 < (fs.length : Int)) = false := decide_eq_false (by omega)
    go_enter Try.func16, Try.ntmps16
    go_wp2_with fail
    go_loopw [10] (fun i wr => ∃ k : Nat, k ≤ fs.length ∧ Hid (okFUp fs k) ∧ i = .int .i64 k ∧ Below w.heap.size w wr) (fun i _ => fs.length - (intOf i).toNat)
    case atStart => exact ⟨0, Nat.zero_le _, Lib.hid (fun j hj => absurd hj (by omega)), rfl, Below.refl _ _⟩
    case round =>
      obtain ⟨k, hk, hok, rfl, hbl⟩ := hrel
      have hsw := hbl.size
      by_cases hlt : k < fs.length
      · obtain ⟨z0, z1⟩ := HD.out k hlt
        obtain ⟨b, off, rfl, hb, hc⟩ := (h.below (hbl.mono hB)).at_ (by omega)
        have c0 : wr.cell? ⟨b, off + k * 2, none⟩ = some (Value.string (gt fs k).1) := hc k 0 (by omega) (by omega)
        have c1 : wr.cell? ⟨b, off + k * 2 + 1, none⟩ = some (Value.string (gt fs k).2) := hc k 1 (by omega) (by omega)
        have e0 : (wr.alloc (.cells #[.string (gt fs k).1, .string (gt fs k).2] 24)).cell? ⟨wr.heap.size, 0, none⟩ = some (Value.string (gt fs k).1) := by rw [World.cell?_alloc_at _ _ _ _ rfl]; rfl
        have e1 : (wr.alloc (.cells #[.string (gt fs k).1, .string (gt fs k).2] 24)).cell? ⟨wr.heap.size, 1, none⟩ = some (Value.string (gt fs k).2) := by rw [World.cell?_alloc_at _ _ _ _ rfl]; rfl
        have hsz1 : wr.heap.size < (wr.alloc (.cells #[.string (gt fs k).1, .string (gt fs k).2] 24)).heap.size := by simp
        have hblW := hbl.alloc hbl.size (.cells #[.string (gt fs k).1, .string (gt fs k).2] 24)
        have hbW : b < (wr.alloc (.cells #[.string (gt fs k).1, .string (gt fs k).2] 24)).heap.size := by omega
        have f0 := fun (z : Bel (wr.alloc (.cells #[.string (gt fs k).1, .string (gt fs k).2] 24)).heap.size (wr.alloc (.cells #[.string (gt fs k).1, .string (gt fs k).2] 24))) => Bel.cell e0 hsz1 z
        have f1 := fun (z : Bel (wr.alloc (.cells #[.string (gt fs k).1, .string (gt fs k).2] 24)).heap.size (wr.alloc (.cells #[.string (gt fs k).1, .string (gt fs k).2] 24))) => Bel.cell e1 hsz1 z
        by_cases q1 : hvB ((gt fs k).1, (gt fs k).2) = true
        · by_cases hk0 : k = 0
          · have d0 : decide (0 < (k : Int)) = false := decide_eq_false (by omega)
            have d0n : decide (0 < k) = false := decide_eq_false (by omega)
            have HN := Lib.hid (okFUp_succ hok.out ⟨q1, fun h0 => absurd h0 (by omega)⟩)
            clear hk0
            go_wp2_with fail
            generalize (wr.alloc (.cells #[.string (gt fs k).1, .string (gt fs k).2] 24)) = W at *
            refine wp_region_bel W.heap.size (by kernel_rfl) (by kernel_rfl) ?_
            repeat (go_big_quiet_step (first | (go_at_call 14; exact Calls.bel (Nat.le_refl _) (implHandleValid_b _ _ _ (by assumption) (by assumption))) | (go_at_call 39; exact Calls.bel (Nat.le_refl _) (implHandleBefore_any _ _ _ _ _))))
            refine wpQuiet_nil ?_
            intro _ hw'
            obtain ⟨z, hw''⟩ := hw'
            subst hw''
            go_wp2_with fail
            have hbX := hblW.trans (z.h.mono hblW.size)
            go_roundw
            case rel => exact ⟨k + 1, by omega, HN, by go_num, hbX⟩
            case measure => simp [intOf]; omega
          · have d0 : decide (0 < (k : Int)) = true := decide_eq_true (by omega)
            have d0n : decide (0 < k) = true := decide_eq_true (by omega)
            have hk1 : ((k : Int) - 1).toNat = k - 1 := by omega
            have hk2 : IntKind.i64.wrap ((k : Int) - 1) = (k : Int) - 1 := IntWalk.i64_in _ (by omega)
            have hk4 : (0 : Int) ≤ (k : Int) - 1 := by omega
            have hk5 : (k : Int) - 1 < (fs.length : Int) := by omega
            have p0 : wr.cell? ⟨b, off + (k - 1) * 2, none⟩ = some (Value.string (gt fs (k - 1)).1) := hc (k - 1) 0 (by omega) (by omega)
            have p1 : wr.cell? ⟨b, off + (k - 1) * 2 + 1, none⟩ = some (Value.string (gt fs (k - 1)).2) := hc (k - 1) 1 (by omega) (by omega)
            have g0 := fun (z : Bel (wr.alloc (.cells #[.string (gt fs k).1, .string (gt fs k).2] 24)).heap.size (wr.alloc (.cells #[.string (gt fs k).1, .string (gt fs k).2] 24))) => Bel.cell (cellOn p0 (by show b < _; omega) (Below.push (Below.refl _ _) _)) hbW z
            have g1 := fun (z : Bel (wr.alloc (.cells #[.string (gt fs k).1, .string (gt fs k).2] 24)).heap.size (wr.alloc (.cells #[.string (gt fs k).1, .string (gt fs k).2] 24))) => Bel.cell (cellOn p1 (by show b < _; omega) (Below.push (Below.refl _ _) _)) hbW z
            by_cases q2 : hbB ((gt fs (k - 1)).1, (gt fs (k - 1)).2) ((gt fs k).1, (gt fs k).2) = true
            · have HN := Lib.hid (okFUp_succ hok.out ⟨q1, fun _ => BefH.of q2⟩)
              clear p0 p1 hk0
              go_wp2_with fail
              generalize (wr.alloc (.cells #[.string (gt fs k).1, .string (gt fs k).2] 24)) = W at *
              refine wp_region_bel W.heap.size (by kernel_rfl) (by kernel_rfl) ?_
              repeat (go_big_quiet_step (first | (go_at_call 14; exact Calls.bel (Nat.le_refl _) (implHandleValid_b _ _ _ (by assumption) (by assumption))) | (go_at_call 39; exact Calls.bel (Nat.le_refl _) (implHandleBefore_any _ _ _ _ _))))
              refine wpQuiet_nil ?_
              intro _ hw'
              obtain ⟨z, hw''⟩ := hw'
              subst hw''
              go_wp2_with fail
              have hbX := hblW.trans (z.h.mono hblW.size)
              go_roundw
              case rel => exact ⟨k + 1, by omega, HN, by go_num, hbX⟩
              case measure => simp [intOf]; omega
            · have q2' : hbB ((gt fs (k - 1)).1, (gt fs (k - 1)).2) ((gt fs k).1, (gt fs k).2) = false := by simpa using q2
              have HQ := Lib.hid (fvB_bad hlt (fun hh => q2 (hbB_true (hh.2 (by omega)))))
              clear q2 p0 p1 hk0
              go_wp2_with fail
              generalize (wr.alloc (.cells #[.string (gt fs k).1, .string (gt fs k).2] 24)) = W at *
              refine wp_region_bel W.heap.size (by kernel_rfl) (by kernel_rfl) ?_
              repeat (go_big_quiet_step (first | (go_at_call 14; exact Calls.bel (Nat.le_refl _) (implHandleValid_b _ _ _ (by assumption) (by assumption))) | (go_at_call 39; exact Calls.bel (Nat.le_refl _) (implHandleBefore_any _ _ _ _ _))))
              refine wpQuiet_nil ?_
              intro _ hw'
              obtain ⟨z, hw''⟩ := hw'
              subst hw''
              go_wp2_with fail
              go_ret
              exact ⟨ret_bool HQ.out.symm, hblW.trans (z.h.mono hblW.size)⟩
        · have q1' : hvB ((gt fs k).1, (gt fs k).2) = false := by simpa using q1
          have HQ := Lib.hid (fvB_bad hlt (fun hh => q1 hh.1))
          clear q1
          go_wp2_with fail
          generalize (wr.alloc (.cells #[.string (gt fs k).1, .string (gt fs k).2] 24)) = W at *
          refine wp_region_bel W.heap.size (by kernel_rfl) (by kernel_rfl) ?_
          repeat (go_big_quiet_step (first | (go_at_call 14; exact Calls.bel (Nat.le_refl _) (implHandleValid_b _ _ _ (by assumption) (by assumption))) | (go_at_call 39; exact Calls.bel (Nat.le_refl _) (implHandleBefore_any _ _ _ _ _))))
          refine wpQuiet_nil ?_
          intro _ hw'
          obtain ⟨z, hw''⟩ := hw'
          subst hw''
          go_wp2_with fail
          go_ret
          exact ⟨ret_bool HQ.out.symm, hblW.trans (z.h.mono hblW.size)⟩
      · obtain rfl : k = fs.length := by omega
        have HQ := Lib.hid (fvB_true hlen hok.out)
        go_wp2_with fail
        go_ret
        exact ⟨ret_bool HQ.out.symm, hbl⟩
  · have hd : decide (10 < (fs.length : Int)) = true := decide_eq_true (by omega)
    have HQ := Lib.hid (fvB_long (ps := fs) (by omega))
    go_enter Try.func16, Try.ntmps16
    go_wp2_with fail
    go_ret
    exact ⟨ret_bool HQ.out.symm, Below.refl _ _⟩
set_option maxRecDepth 100000 in
set_option maxHeartbeats 1600000 in
theorem specFollowersValid_any (A : Option Addr) (cap B : Nat) (fs : List ElHandle) (w : World) (h : RdE 2 encHandle w B A fs) (hB : B ≤ w.heap.size) (hl : fs.length ≤ 140737488351232) (hsz : ∀ k, k < fs.length → (gt fs k).1.size ≤ maxLen ∧ (gt fs k).2.size ≤ maxLen) :
    Calls Try.prog 20 #[.slice A fs.length cap] w fun e w' => e = .returned (.bool (fvB fs)) ∧ Below w.heap.size w w' := by
  have HD := Lib.hid hsz
  clear hsz
  go_enter Try.func20, Try.ntmps20
  go_wp2_with fail
  go_loopw [3] (fun i wr => ∃ k : Nat, k ≤ fs.length ∧ Hid (okFUp fs k) ∧ i = .int .i64 k ∧ Below w.heap.size w wr) (fun i _ => fs.length - (intOf i).toNat)
  case atStart => exact ⟨0, Nat.zero_le _, Lib.hid (fun j hj => absurd hj (by omega)), rfl, Below.refl _ _⟩
  case round =>
    obtain ⟨k, hk, hok, rfl, hbl⟩ := hrel
    have hsw := hbl.size
    by_cases hlt : k < fs.length
    · obtain ⟨z0, z1⟩ := HD.out k hlt
      obtain ⟨b, off, rfl, hb, hc⟩ := (h.below (hbl.mono hB)).at_ (by omega)
      have c0 : wr.cell? ⟨b, off + k * 2, none⟩ = some (Value.string (gt fs k).1) := hc k 0 (by omega) (by omega)
      have c1 : wr.cell? ⟨b, off + k * 2 + 1, none⟩ = some (Value.string (gt fs k).2) := hc k 1 (by omega) (by omega)
      have f0 := fun (z : Bel wr.heap.size wr) => Bel.cell c0 (by show b < _; omega) z
      have f1 := fun (z : Bel wr.heap.size wr) => Bel.cell c1 (by show b < _; omega) z
      have hblW := hbl
      by_cases q1 : hvB ((gt fs k).1, (gt fs k).2) = true
      · by_cases hk0 : k = 0
        · have d0 : decide (0 < (k : Int)) = false := decide_eq_false (by omega)
          have d0n : decide (0 < k) = false := decide_eq_false (by omega)
          have HN := Lib.hid (okFUp_succ hok.out ⟨q1, fun h0 => absurd h0 (by omega)⟩)
          clear hk0
          go_wp2_with fail
          refine wp_region_bel wr.heap.size (by kernel_rfl) (by kernel_rfl) ?_
          repeat (go_big_quiet_step (first | (go_at_call 18; exact Calls.bel (Nat.le_refl _) (specHandleValid_b _ _ _ (by assumption) (by assumption))) | (go_at_call 42; exact Calls.bel (Nat.le_refl _) (specHandleBefore_any _ _ _ _ _))))
          refine wpQuiet_nil ?_
          intro _ hw'
          obtain ⟨z, hw''⟩ := hw'
          subst hw''
          go_wp2_with fail
          have hbX := hblW.trans (z.h.mono hblW.size)
          go_roundw
          case rel => exact ⟨k + 1, by omega, HN, by go_num, hbX⟩
          case measure => simp [intOf]; omega
        · have d0 : decide (0 < (k : Int)) = true := decide_eq_true (by omega)
          have d0n : decide (0 < k) = true := decide_eq_true (by omega)
          have hk1 : ((k : Int) - 1).toNat = k - 1 := by omega
          have hk2 : IntKind.i64.wrap ((k : Int) - 1) = (k : Int) - 1 := IntWalk.i64_in _ (by omega)
          have hk4 : (0 : Int) ≤ (k : Int) - 1 := by omega
          have hk5 : (k : Int) - 1 < (fs.length : Int) := by omega
          have p0 : wr.cell? ⟨b, off + (k - 1) * 2, none⟩ = some (Value.string (gt fs (k - 1)).1) := hc (k - 1) 0 (by omega) (by omega)
          have p1 : wr.cell? ⟨b, off + (k - 1) * 2 + 1, none⟩ = some (Value.string (gt fs (k - 1)).2) := hc (k - 1) 1 (by omega) (by omega)
          have g0 := fun (z : Bel wr.heap.size wr) => Bel.cell p0 (by show b < _; omega) z
          have g1 := fun (z : Bel wr.heap.size wr) => Bel.cell p1 (by show b < _; omega) z
          by_cases q2 : hbB ((gt fs (k - 1)).1, (gt fs (k - 1)).2) ((gt fs k).1, (gt fs k).2) = true
          · have HN := Lib.hid (okFUp_succ hok.out ⟨q1, fun _ => BefH.of q2⟩)
            clear p0 p1 hk0
            go_wp2_with fail
            refine wp_region_bel wr.heap.size (by kernel_rfl) (by kernel_rfl) ?_
            repeat (go_big_quiet_step (first | (go_at_call 18; exact Calls.bel (Nat.le_refl _) (specHandleValid_b _ _ _ (by assumption) (by assumption))) | (go_at_call 42; exact Calls.bel (Nat.le_refl _) (specHandleBefore_any _ _ _ _ _))))
            refine wpQuiet_nil ?_
            intro _ hw'
            obtain ⟨z, hw''⟩ := hw'
            subst hw''
            go_wp2_with fail
            have hbX := hblW.trans (z.h.mono hblW.size)
            go_roundw
            case rel => exact ⟨k + 1, by omega, HN, by go_num, hbX⟩
            case measure => simp [intOf]; omega
          · have q2' : hbB ((gt fs (k - 1)).1, (gt fs (k - 1)).2) ((gt fs k).1, (gt fs k).2) = false := by simpa using q2
            have HQ := Lib.hid (fvB_bad hlt (fun hh => q2 (hbB_true (hh.2 (by omega)))))
            clear q2 p0 p1 hk0
            go_wp2_with fail
            refine wp_region_bel wr.heap.size (by kernel_rfl) (by kernel_rfl) ?_
            repeat (go_big_quiet_step (first | (go_at_call 18; exact Calls.bel (Nat.le_refl _) (specHandleValid_b _ _ _ (by assumption) (by assumption))) | (go_at_call 42; exact Calls.bel (Nat.le_refl _) (specHandleBefore_any _ _ _ _ _))))
            refine wpQuiet_nil ?_
            intro _ hw'
            obtain ⟨z, hw''⟩ := hw'
            subst hw''
            go_wp2_with fail
            go_ret
            exact ⟨ret_bool HQ.out.symm, hblW.trans (z.h.mono hblW.size)⟩
      · have q1' : hvB ((gt fs k).1, (gt fs k).2) = false := by simpa using q1
        have HQ := Lib.hid (fvB_bad hlt (fun hh => q1 hh.1))
        clear q1
        go_wp2_with fail
        refine wp_region_bel wr.heap.size (by kernel_rfl) (by kernel_rfl) ?_
        repeat (go_big_quiet_step (first | (go_at_call 18; exact Calls.bel (Nat.le_refl _) (specHandleValid_b _ _ _ (by assumption) (by assumption))) | (go_at_call 42; exact Calls.bel (Nat.le_refl _) (specHandleBefore_any _ _ _ _ _))))
        refine wpQuiet_nil ?_
        intro _ hw'
        obtain ⟨z, hw''⟩ := hw'
        subst hw''
        go_wp2_with fail
        go_ret
        exact ⟨ret_bool HQ.out.symm, hblW.trans (z.h.mono hblW.size)⟩
    · obtain rfl : k = fs.length := by omega
      have HQ := Lib.hid (fvB_all hok.out).symm
      go_wp2_with fail
      go_ret
      exact ⟨ret_bool HQ.out.symm, hbl⟩
end Go.Proofs.Ytfnmlffpnmmcdaa
