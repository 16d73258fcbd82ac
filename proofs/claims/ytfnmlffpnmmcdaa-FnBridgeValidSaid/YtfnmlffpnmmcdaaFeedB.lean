/- impl.FeedValid, walked. -/
import Derived.Test.YtfnmlffpnmmcdaaFeedA
namespace Go.Proofs.Ytfnmlffpnmmcdaa
open Go.RowKit
set_option maxHeartbeats 1600000 in
theorem implFeedValid_any (A : Option Addr) (cap B : Nat) (xs : List ElItem) (w : World) (h : RdE 4 encItem w B A xs) (hB : B ≤ w.heap.size) (hl : xs.length ≤ 140737488351232) (hcap : xs.length ≤ cap) (hsz : ∀ k, k < xs.length → (gt xs k).1.size ≤ maxLen ∧ (gt xs k).2.1.size ≤ maxLen ∧ (gt xs k).2.2.1.size ≤ maxLen) :
    Calls Try.prog 15 #[.slice A xs.length cap] w fun e w' => e = .returned (.bool (fdB xs)) ∧ Below w.heap.size w w' := by
  have HD := Lib.hid hsz
  clear hsz
  by_cases hlen : xs.length ≤ 8
  · have hd : decide (8 < (xs.length : Int)) = false := decide_eq_false (by omega)
    go_enter Try.func15, Try.ntmps15
    go_wp2_with fail
    go_loopw [10] (fun i wr => ∃ k : Nat, k ≤ xs.length ∧ Hid (upTo OkI xs k) ∧ i = .int .i64 k ∧ Below w.heap.size w wr) (fun i _ => xs.length - (intOf i).toNat)
    case atStart => exact ⟨0, Nat.zero_le _, Lib.hid upTo_zero, rfl, Below.refl _ _⟩
    case round =>
      obtain ⟨k, hk, hok, rfl, hbl⟩ := hrel
      have hsw := hbl.size
      by_cases hlt : k < xs.length
      · obtain ⟨z0, z1, z2⟩ := HD.out k hlt
        have hrW := (h.below (hbl.mono hB)).alloc (Nat.le_trans hB hbl.size) (.cells #[Value.string (gt xs k).1, Value.string (gt xs k).2.1, Value.string (gt xs k).2.2.1, Value.int .i64 (gt xs k).2.2.2] 68)
        obtain ⟨b, off, rfl, hb, hc⟩ := (h.below (hbl.mono hB)).at_ (by omega)
        have e0 : (wr.alloc (.cells #[Value.string (gt xs k).1, Value.string (gt xs k).2.1, Value.string (gt xs k).2.2.1, Value.int .i64 (gt xs k).2.2.2] 68)).cell? ⟨wr.heap.size, 0, none⟩ = some (Value.string (gt xs k).1) := by rw [World.cell?_alloc_at _ _ _ _ rfl]; rfl
        have e1 : (wr.alloc (.cells #[Value.string (gt xs k).1, Value.string (gt xs k).2.1, Value.string (gt xs k).2.2.1, Value.int .i64 (gt xs k).2.2.2] 68)).cell? ⟨wr.heap.size, 1, none⟩ = some (Value.string (gt xs k).2.1) := by rw [World.cell?_alloc_at _ _ _ _ rfl]; rfl
        have e2 : (wr.alloc (.cells #[Value.string (gt xs k).1, Value.string (gt xs k).2.1, Value.string (gt xs k).2.2.1, Value.int .i64 (gt xs k).2.2.2] 68)).cell? ⟨wr.heap.size, 2, none⟩ = some (Value.string (gt xs k).2.2.1) := by rw [World.cell?_alloc_at _ _ _ _ rfl]; rfl
        have e3 : (wr.alloc (.cells #[Value.string (gt xs k).1, Value.string (gt xs k).2.1, Value.string (gt xs k).2.2.1, Value.int .i64 (gt xs k).2.2.2] 68)).cell? ⟨wr.heap.size, 3, none⟩ = some (Value.int .i64 (gt xs k).2.2.2) := by rw [World.cell?_alloc_at _ _ _ _ rfl]; rfl
        have c0 : wr.cell? ⟨b, off + k * 4, none⟩ = some (Value.string (gt xs k).1) := hc k 0 (by omega) (by omega)
        have c1 : wr.cell? ⟨b, off + k * 4 + 1, none⟩ = some (Value.string (gt xs k).2.1) := hc k 1 (by omega) (by omega)
        have c2 : wr.cell? ⟨b, off + k * 4 + 2, none⟩ = some (Value.string (gt xs k).2.2.1) := hc k 2 (by omega) (by omega)
        have c3 : wr.cell? ⟨b, off + k * 4 + 3, none⟩ = some (Value.int .i64 (gt xs k).2.2.2) := hc k 3 (by omega) (by omega)
        have hsz1 : wr.heap.size < (wr.alloc (.cells #[Value.string (gt xs k).1, Value.string (gt xs k).2.1, Value.string (gt xs k).2.2.1, Value.int .i64 (gt xs k).2.2.2] 68)).heap.size := by simp
        have hblW := hbl.alloc hbl.size (.cells #[Value.string (gt xs k).1, Value.string (gt xs k).2.1, Value.string (gt xs k).2.2.1, Value.int .i64 (gt xs k).2.2.2] 68)
        have hsl := fun W => run_upto (P := Try.prog) Try.underlying25 info_Item (some ⟨b, off, none⟩) xs.length cap k (by omega) W
        clear hc
        have f0 := fun (z : Bel (wr.alloc (.cells #[Value.string (gt xs k).1, Value.string (gt xs k).2.1, Value.string (gt xs k).2.2.1, Value.int .i64 (gt xs k).2.2.2] 68)).heap.size (wr.alloc (.cells #[Value.string (gt xs k).1, Value.string (gt xs k).2.1, Value.string (gt xs k).2.2.1, Value.int .i64 (gt xs k).2.2.2] 68))) => Bel.cell e0 hsz1 z
        have f1 := fun (z : Bel (wr.alloc (.cells #[Value.string (gt xs k).1, Value.string (gt xs k).2.1, Value.string (gt xs k).2.2.1, Value.int .i64 (gt xs k).2.2.2] 68)).heap.size (wr.alloc (.cells #[Value.string (gt xs k).1, Value.string (gt xs k).2.1, Value.string (gt xs k).2.2.1, Value.int .i64 (gt xs k).2.2.2] 68))) => Bel.cell e1 hsz1 z
        have f2 := fun (z : Bel (wr.alloc (.cells #[Value.string (gt xs k).1, Value.string (gt xs k).2.1, Value.string (gt xs k).2.2.1, Value.int .i64 (gt xs k).2.2.2] 68)).heap.size (wr.alloc (.cells #[Value.string (gt xs k).1, Value.string (gt xs k).2.1, Value.string (gt xs k).2.2.1, Value.int .i64 (gt xs k).2.2.2] 68))) => Bel.cell e2 hsz1 z
        have f3 := fun (z : Bel (wr.alloc (.cells #[Value.string (gt xs k).1, Value.string (gt xs k).2.1, Value.string (gt xs k).2.2.1, Value.int .i64 (gt xs k).2.2.2] 68)).heap.size (wr.alloc (.cells #[Value.string (gt xs k).1, Value.string (gt xs k).2.1, Value.string (gt xs k).2.2.1, Value.int .i64 (gt xs k).2.2.2] 68))) => Bel.cell e3 hsz1 z
        have hcall := fun (z : Bel (wr.alloc (.cells #[Value.string (gt xs k).1, Value.string (gt xs k).2.1, Value.string (gt xs k).2.2.1, Value.int .i64 (gt xs k).2.2.2] 68)).heap.size (wr.alloc (.cells #[Value.string (gt xs k).1, Value.string (gt xs k).2.1, Value.string (gt xs k).2.2.1, Value.int .i64 (gt xs k).2.2.2] 68))) => implItemValid_any (gt xs k).1 (gt xs k).2.1 (gt xs k).2.2.1 (gt xs k).2.2.2 z.u z0 z1 z2
        have hcal2 := fun (z : Bel (wr.alloc (.cells #[Value.string (gt xs k).1, Value.string (gt xs k).2.1, Value.string (gt xs k).2.2.1, Value.int .i64 (gt xs k).2.2.2] 68)).heap.size (wr.alloc (.cells #[Value.string (gt xs k).1, Value.string (gt xs k).2.1, Value.string (gt xs k).2.2.1, Value.int .i64 (gt xs k).2.2.2] 68))) => itemNumber_any (tlA (some ⟨b, off, none⟩) cap 0 4) cap B (xs.take k) (gt xs k).1 z.u ((RdE.head hrW cap k).below (z.h.mono (Nat.le_trans hB (Nat.le_trans hbl.size (Nat.le_of_lt hsz1))))) (Nat.le_trans (Nat.le_trans hB (Nat.le_trans hbl.size (Nat.le_of_lt hsz1))) z.h.size) (by rw [List.length_take]; omega)
        have hlk : (xs.take k).length = k := by simp; omega
        rw [hlk] at hcal2
        have HC2 := Lib.hid hcal2
        clear hlk hcal2
        by_cases hv : ivB (gt xs k) = true
        · simp only [show ivB ((gt xs k).1, (gt xs k).2.1, (gt xs k).2.2.1, (gt xs k).2.2.2) = true from hv] at hcall
          have HC := Lib.hid hcall
          clear hcall
          by_cases hdis : ∃ j, j < k ∧ (gt xs j).1 = (gt xs k).1
          · have hge : 0 ≤ itemIx (xs.take k) (gt xs k).1 := by
              obtain ⟨j, hj, e⟩ := hdis
              exact ix_take_some (by omega) hj (seq_true.2 e)
            have hgd : decide (0 ≤ itemIx (xs.take k) (gt xs k).1) = true := decide_eq_true hge
            have HQ := Lib.hid (vdB_bad (Ok := OkI) (mx := 8) hlt (fun hk => by
              obtain ⟨j, hj, e⟩ := hdis
              exact hk.2 j hj e))
            clear hdis hge hv
            go_wp2_with fail
            generalize (wr.alloc (.cells #[Value.string (gt xs k).1, Value.string (gt xs k).2.1, Value.string (gt xs k).2.2.1, Value.int .i64 (gt xs k).2.2.2] 68)) = W at *
            refine wp_region_bel W.heap.size (by kernel_rfl) (by kernel_rfl) ?_
            repeat (go_big_quiet_step (first | (go_at_call 37; exact Calls.bel (Nat.le_refl _) (HC.out _)) | (go_at_call 38; exact Calls.bel (Nat.le_refl _) (HC2.out _))))
            refine wpQuiet_nil ?_
            intro _ hw'
            obtain ⟨z, hw''⟩ := hw'
            subst hw''
            go_wp2_with fail
            go_ret
            exact ⟨ret_bool HQ.out.symm, hblW.trans (z.h.mono hblW.size)⟩
          · have hneg : itemIx (xs.take k) (gt xs k).1 = -1 := ix_take_none (by omega) (fun j hj => seq_false.2 (fun e => hdis ⟨j, hj, e⟩))
            have hgd : decide (0 ≤ itemIx (xs.take k) (gt xs k).1) = false := decide_eq_false (by omega)
            have HN := Lib.hid (upTo_succ hok.out ⟨hv, fun j hj e => hdis ⟨j, hj, e⟩⟩)
            clear hdis hneg hv
            go_wp2_with fail
            generalize (wr.alloc (.cells #[Value.string (gt xs k).1, Value.string (gt xs k).2.1, Value.string (gt xs k).2.2.1, Value.int .i64 (gt xs k).2.2.2] 68)) = W at *
            refine wp_region_bel W.heap.size (by kernel_rfl) (by kernel_rfl) ?_
            repeat (go_big_quiet_step (first | (go_at_call 37; exact Calls.bel (Nat.le_refl _) (HC.out _)) | (go_at_call 38; exact Calls.bel (Nat.le_refl _) (HC2.out _))))
            refine wpQuiet_nil ?_
            intro _ hw'
            obtain ⟨z, hw''⟩ := hw'
            subst hw''
            go_wp2_with fail
            have hbX := hblW.trans (z.h.mono hblW.size)
            go_roundw
            case rel => exact ⟨k + 1, by omega, HN, by go_num, hbX⟩
            case measure => simp [intOf]; omega
        · have hv' : ivB (gt xs k) = false := by simpa using hv
          have HQ := Lib.hid (vdB_bad (Ok := OkI) (mx := 8) hlt (fun hk => hv hk.1))
          simp only [show ivB ((gt xs k).1, (gt xs k).2.1, (gt xs k).2.2.1, (gt xs k).2.2.2) = false from hv'] at hcall
          have HC := Lib.hid hcall
          clear hcall hv
          go_wp2_with fail
          generalize (wr.alloc (.cells #[Value.string (gt xs k).1, Value.string (gt xs k).2.1, Value.string (gt xs k).2.2.1, Value.int .i64 (gt xs k).2.2.2] 68)) = W at *
          refine wp_region_bel W.heap.size (by kernel_rfl) (by kernel_rfl) ?_
          repeat (go_big_quiet_step (first | (go_at_call 37; exact Calls.bel (Nat.le_refl _) (HC.out _)) | (go_at_call 38; exact Calls.bel (Nat.le_refl _) (HC2.out _))))
          refine wpQuiet_nil ?_
          intro _ hw'
          obtain ⟨z, hw''⟩ := hw'
          subst hw''
          go_wp2_with fail
          go_ret
          exact ⟨ret_bool HQ.out.symm, hblW.trans (z.h.mono hblW.size)⟩
      · obtain rfl : k = xs.length := by omega
        have HQ := Lib.hid (show fdB xs = true from vdB_true ⟨hlen, hok.out⟩)
        go_wp2_with fail
        go_ret
        exact ⟨ret_bool HQ.out.symm, hbl⟩
  · have hd : decide (8 < (xs.length : Int)) = true := decide_eq_true (by omega)
    have HQ := Lib.hid (show fdB xs = false from vdB_long (by omega))
    go_enter Try.func15, Try.ntmps15
    go_wp2_with fail
    go_ret
    exact ⟨ret_bool HQ.out.symm, Below.refl _ _⟩
end Go.Proofs.Ytfnmlffpnmmcdaa
