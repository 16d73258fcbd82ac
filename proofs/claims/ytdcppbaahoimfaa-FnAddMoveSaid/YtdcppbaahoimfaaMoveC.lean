import Derived.Test.YtdcppbaahoimfaaMoveB
import Derived.Test.YtdcppbaahoimfaaRegB
namespace Go.Proofs.Ytdcppbaahoimfaa
open Go.RowKit
set_option maxRecDepth 100000 in
set_option maxHeartbeats 3200000 in
theorem implMovesValid_any (A : Option Addr) (cap B : Nat) (ms : List ElMove) (w : World) (h : RdE 4 encMove w B A ms) (hB : B ≤ w.heap.size) (hl : ms.length ≤ 140737488351232) (hcap : ms.length ≤ cap) (hsz : ∀ k, k < ms.length → (gt ms k).1.1.size ≤ maxLen ∧ (gt ms k).1.2.size ≤ maxLen ∧ (gt ms k).2.1.size ≤ maxLen ∧ (gt ms k).2.2.size ≤ maxLen) :
    Calls Try.prog 12 #[.slice A ms.length cap] w fun e w' => e = .returned (.bool (mvB ms)) ∧ Below w.heap.size w w' := by
  by_cases hlen : ms.length ≤ 8
  · have hd : decide (8 < (ms.length : Int)) = false := decide_eq_false (by omega)
    have HD := Lib.hid hsz
    clear hsz
    go_enter Try.func12, Try.ntmps12
    go_wp2_with fail
    go_loopw [12] (fun i wr => ∃ k : Nat, k ≤ ms.length ∧ Hid (upTo OkM1 ms k) ∧ i = .int .i64 k ∧ Below w.heap.size w wr) (fun i _ => ms.length - (intOf i).toNat)
    case atStart => exact ⟨0, Nat.zero_le _, Lib.hid upTo_zero, rfl, Below.refl _ _⟩
    case round =>
      obtain ⟨k, hk, hok, rfl, hbl⟩ := hrel
      by_cases hlt : k < ms.length
      · obtain ⟨z0, z1, z2, z3⟩ := HD.out k hlt
        obtain ⟨b, off, rfl, hb, hc⟩ := (h.below (hbl.mono hB)).at_ (by omega)
        have hrW := (h.below (hbl.mono hB)).alloc (Nat.le_trans hB hbl.size) (.cells #[.string ((gt ms k).1.1), .string ((gt ms k).1.2), .string ((gt ms k).2.1), .string ((gt ms k).2.2)] 30)
        have e0 : (wr.alloc (.cells #[.string ((gt ms k).1.1), .string ((gt ms k).1.2), .string ((gt ms k).2.1), .string ((gt ms k).2.2)] 30)).cell? ⟨wr.heap.size, 0, none⟩ = some (Value.string ((gt ms k).1.1)) := by rw [World.cell?_alloc_at _ _ _ _ rfl]; rfl
        have e1 : (wr.alloc (.cells #[.string ((gt ms k).1.1), .string ((gt ms k).1.2), .string ((gt ms k).2.1), .string ((gt ms k).2.2)] 30)).cell? ⟨wr.heap.size, 1, none⟩ = some (Value.string ((gt ms k).1.2)) := by rw [World.cell?_alloc_at _ _ _ _ rfl]; rfl
        have e2 : (wr.alloc (.cells #[.string ((gt ms k).1.1), .string ((gt ms k).1.2), .string ((gt ms k).2.1), .string ((gt ms k).2.2)] 30)).cell? ⟨wr.heap.size, 2, none⟩ = some (Value.string ((gt ms k).2.1)) := by rw [World.cell?_alloc_at _ _ _ _ rfl]; rfl
        have e3 : (wr.alloc (.cells #[.string ((gt ms k).1.1), .string ((gt ms k).1.2), .string ((gt ms k).2.1), .string ((gt ms k).2.2)] 30)).cell? ⟨wr.heap.size, 3, none⟩ = some (Value.string ((gt ms k).2.2)) := by rw [World.cell?_alloc_at _ _ _ _ rfl]; rfl
        have c0 : wr.cell? ⟨b, off + k * 4, none⟩ = some (Value.string ((gt ms k).1.1)) := hc k 0 (by omega) (by omega)
        have c1 : wr.cell? ⟨b, off + k * 4 + 1, none⟩ = some (Value.string ((gt ms k).1.2)) := hc k 1 (by omega) (by omega)
        have c2 : wr.cell? ⟨b, off + k * 4 + 2, none⟩ = some (Value.string ((gt ms k).2.1)) := hc k 2 (by omega) (by omega)
        have c3 : wr.cell? ⟨b, off + k * 4 + 3, none⟩ = some (Value.string ((gt ms k).2.2)) := hc k 3 (by omega) (by omega)
        have hsz1 : wr.heap.size < (wr.alloc (.cells #[.string ((gt ms k).1.1), .string ((gt ms k).1.2), .string ((gt ms k).2.1), .string ((gt ms k).2.2)] 30)).heap.size := by simp
        have hblW := hbl.alloc hbl.size (.cells #[.string ((gt ms k).1.1), .string ((gt ms k).1.2), .string ((gt ms k).2.1), .string ((gt ms k).2.2)] 30)
        have hsl := fun W => run_upto (P := Try.prog) Try.underlying23 info_Move (some ⟨b, off, none⟩) ms.length cap k (by omega) W
        clear hc
        have hlk : (ms.take k).length = k := by simp; omega
        have hcall := fun (u : World) (hu : Below (wr.alloc (.cells #[.string ((gt ms k).1.1), .string ((gt ms k).1.2), .string ((gt ms k).2.1), .string ((gt ms k).2.2)] 30)).heap.size (wr.alloc (.cells #[.string ((gt ms k).1.1), .string ((gt ms k).1.2), .string ((gt ms k).2.1), .string ((gt ms k).2.2)] 30)) u) => moveFrom_any (tlA (some ⟨b, off, none⟩) cap 0 4) cap B (ms.take k) (gt ms k).1.1 (gt ms k).1.2 u ((RdE.head hrW cap k).below (hu.mono (Nat.le_trans (Nat.le_trans hB hbl.size) (Nat.le_of_lt hsz1)))) (Nat.le_trans (Nat.le_trans (Nat.le_trans hB hbl.size) (Nat.le_of_lt hsz1)) hu.size) (by omega)
        rw [hlk] at hcall
        have heq := fun w' => eql_Handle (gt ms k).1.1 (gt ms k).1.2 (gt ms k).2.1 (gt ms k).2.2 w'
        have hgd := guard_Handle
        by_cases q1 : hvB ((gt ms k).1.1, (gt ms k).1.2) = true
        · by_cases q2 : hvB ((gt ms k).2.1, (gt ms k).2.2) = true
          · by_cases q3 : (gt ms k).1 = (gt ms k).2
            · have q3' : eqEl (α := ElHandle) ((gt ms k).1.1, (gt ms k).1.2) ((gt ms k).2.1, (gt ms k).2.2) = true := eqEl_true q3
              have HQ := Lib.hid (vdB_bad (Ok := OkM) (mx := 8) hlt (fun hk => hk.one.2.2.1 q3))
              clear q3 hcall
              go_wp2_with fail
              generalize (wr.alloc (.cells #[.string ((gt ms k).1.1), .string ((gt ms k).1.2), .string ((gt ms k).2.1), .string ((gt ms k).2.2)] 30)) = W at *
              have f0 := fun (z : Bel W.heap.size W) => Bel.cell e0 hsz1 z
              have f1 := fun (z : Bel W.heap.size W) => Bel.cell e1 hsz1 z
              have f2 := fun (z : Bel W.heap.size W) => Bel.cell e2 hsz1 z
              have f3 := fun (z : Bel W.heap.size W) => Bel.cell e3 hsz1 z
              refine wp_region_bel W.heap.size (by kernel_rfl) (by kernel_rfl) ?_
              repeat (go_big_quiet_step (first | (go_at_call 21; exact Calls.bel (Nat.le_refl _) (implHandleValid_b _ _ _ (by assumption) (by assumption)))))
              refine wpQuiet_nil ?_
              intro _ hw'
              obtain ⟨z, hw''⟩ := hw'
              subst hw''
              clear f0 f1 f2 f3
              go_wp2_with fail
              go_ret
              exact ⟨ret_bool HQ.out.symm, hblW.trans (z.h.mono hblW.size)⟩
            · have q3' : eqEl (α := ElHandle) ((gt ms k).1.1, (gt ms k).1.2) ((gt ms k).2.1, (gt ms k).2.2) = false := eqEl_false q3
              by_cases hdis : ∃ j, j < k ∧ (gt ms j).1 = (gt ms k).1
              · have hge : 0 ≤ fromIx (ms.take k) ((gt ms k).1.1, (gt ms k).1.2) := by
                  obtain ⟨j, hj, e⟩ := hdis
                  exact ix_take_some (by omega) hj (isF_true.2 e)
                have hgd2 : decide (0 ≤ fromIx (ms.take k) ((gt ms k).1.1, (gt ms k).1.2)) = true := decide_eq_true hge
                have HQ := Lib.hid (vdB_bad (Ok := OkM) (mx := 8) hlt (fun hk => by
                  obtain ⟨j, hj, e⟩ := hdis
                  exact hk.2.2.1 j hj e))
                clear hdis hge
                have HCL := Lib.hid hcall
                clear hcall
                go_wp2_with fail
                generalize (wr.alloc (.cells #[.string ((gt ms k).1.1), .string ((gt ms k).1.2), .string ((gt ms k).2.1), .string ((gt ms k).2.2)] 30)) = W at *
                have f0 := fun (z : Bel W.heap.size W) => Bel.cell e0 hsz1 z
                have f1 := fun (z : Bel W.heap.size W) => Bel.cell e1 hsz1 z
                have f2 := fun (z : Bel W.heap.size W) => Bel.cell e2 hsz1 z
                have f3 := fun (z : Bel W.heap.size W) => Bel.cell e3 hsz1 z
                refine wp_region_bel W.heap.size (by kernel_rfl) (by kernel_rfl) ?_
                repeat (go_big_quiet_step (first | (go_at_call 21; exact Calls.bel (Nat.le_refl _) (implHandleValid_b _ _ _ (by assumption) (by assumption))) | (go_at_call 45; exact Calls.bel (Nat.le_refl _) (HCL.out _ (Bel.h _)))))
                refine wpQuiet_nil ?_
                intro _ hw'
                obtain ⟨z, hw''⟩ := hw'
                subst hw''
                clear f0 f1 f2 f3
                go_wp2_with fail
                go_ret
                exact ⟨ret_bool HQ.out.symm, hblW.trans (z.h.mono hblW.size)⟩
              · have hneg : fromIx (ms.take k) ((gt ms k).1.1, (gt ms k).1.2) = -1 := ix_take_none (by omega) (fun j hj => isF_false.2 (fun e => hdis ⟨j, hj, e⟩))
                have HN := Lib.hid (upTo_succ (Ok := OkM1) hok.out ⟨q1, q2, q3, fun j hj e => hdis ⟨j, hj, e⟩⟩)
                clear hdis q3
                rw [hneg] at hcall
                clear hneg
                have HCL := Lib.hid hcall
                clear hcall
                go_wp2_with fail
                generalize (wr.alloc (.cells #[.string ((gt ms k).1.1), .string ((gt ms k).1.2), .string ((gt ms k).2.1), .string ((gt ms k).2.2)] 30)) = W at *
                have f0 := fun (z : Bel W.heap.size W) => Bel.cell e0 hsz1 z
                have f1 := fun (z : Bel W.heap.size W) => Bel.cell e1 hsz1 z
                have f2 := fun (z : Bel W.heap.size W) => Bel.cell e2 hsz1 z
                have f3 := fun (z : Bel W.heap.size W) => Bel.cell e3 hsz1 z
                refine wp_region_bel W.heap.size (by kernel_rfl) (by kernel_rfl) ?_
                repeat (go_big_quiet_step (first | (go_at_call 21; exact Calls.bel (Nat.le_refl _) (implHandleValid_b _ _ _ (by assumption) (by assumption))) | (go_at_call 45; exact Calls.bel (Nat.le_refl _) (HCL.out _ (Bel.h _)))))
                refine wpQuiet_nil ?_
                intro _ hw'
                obtain ⟨z, hw''⟩ := hw'
                subst hw''
                clear f0 f1 f2 f3
                go_wp2_with fail
                have hblX := hblW.trans (z.h.mono hblW.size)
                go_roundw
                case rel => exact ⟨k + 1, by omega, HN, by go_num, hblX⟩
                case measure => simp [intOf]; omega
          · have q2' : hvB ((gt ms k).2.1, (gt ms k).2.2) = false := by simpa using q2
            have HQ := Lib.hid (vdB_bad (Ok := OkM) (mx := 8) hlt (fun hk => q2 hk.2.1))
            clear q2 hcall
            go_wp2_with fail
            generalize (wr.alloc (.cells #[.string ((gt ms k).1.1), .string ((gt ms k).1.2), .string ((gt ms k).2.1), .string ((gt ms k).2.2)] 30)) = W at *
            have f0 := fun (z : Bel W.heap.size W) => Bel.cell e0 hsz1 z
            have f1 := fun (z : Bel W.heap.size W) => Bel.cell e1 hsz1 z
            have f2 := fun (z : Bel W.heap.size W) => Bel.cell e2 hsz1 z
            have f3 := fun (z : Bel W.heap.size W) => Bel.cell e3 hsz1 z
            refine wp_region_bel W.heap.size (by kernel_rfl) (by kernel_rfl) ?_
            repeat (go_big_quiet_step (first | (go_at_call 21; exact Calls.bel (Nat.le_refl _) (implHandleValid_b _ _ _ (by assumption) (by assumption)))))
            refine wpQuiet_nil ?_
            intro _ hw'
            obtain ⟨z, hw''⟩ := hw'
            subst hw''
            clear f0 f1 f2 f3
            go_wp2_with fail
            go_ret
            exact ⟨ret_bool HQ.out.symm, hblW.trans (z.h.mono hblW.size)⟩
        · have q1' : hvB ((gt ms k).1.1, (gt ms k).1.2) = false := by simpa using q1
          have HQ := Lib.hid (vdB_bad (Ok := OkM) (mx := 8) hlt (fun hk => q1 hk.1))
          clear q1 hcall
          go_wp2_with fail
          generalize (wr.alloc (.cells #[.string ((gt ms k).1.1), .string ((gt ms k).1.2), .string ((gt ms k).2.1), .string ((gt ms k).2.2)] 30)) = W at *
          have f0 := fun (z : Bel W.heap.size W) => Bel.cell e0 hsz1 z
          have f1 := fun (z : Bel W.heap.size W) => Bel.cell e1 hsz1 z
          have f2 := fun (z : Bel W.heap.size W) => Bel.cell e2 hsz1 z
          have f3 := fun (z : Bel W.heap.size W) => Bel.cell e3 hsz1 z
          refine wp_region_bel W.heap.size (by kernel_rfl) (by kernel_rfl) ?_
          repeat (go_big_quiet_step (first | (go_at_call 21; exact Calls.bel (Nat.le_refl _) (implHandleValid_b _ _ _ (by assumption) (by assumption)))))
          refine wpQuiet_nil ?_
          intro _ hw'
          obtain ⟨z, hw''⟩ := hw'
          subst hw''
          clear f0 f1 f2 f3
          go_wp2_with fail
          go_ret
          exact ⟨ret_bool HQ.out.symm, hblW.trans (z.h.mono hblW.size)⟩
      · obtain rfl : k = ms.length := by omega
        go_wp2_with fail
        go_loopw [46] (fun i wq => ∃ k : Nat, k ≤ ms.length ∧ Hid (∀ j, j < k → circB ms (gt ms j) = false) ∧ i = .int .i64 k ∧ Below w.heap.size w wq) (fun i _ => ms.length - (intOf i).toNat)
        case atStart => exact ⟨0, Nat.zero_le _, Lib.hid (fun j hj => absurd hj (by omega)), rfl, hbl⟩
        case round =>
          clear hbl
          obtain ⟨k, hk, hno, rfl, hbl⟩ := hrel
          by_cases hlt : k < ms.length
          · have hrr := h.below (hbl.mono hB)
            have hBr := Nat.le_trans hB hbl.size
            obtain ⟨b, off, rfl, hb, hc⟩ := hrr.at_ (by omega)
            have e0 : (wr.alloc (.cells #[.string ((gt ms k).1.1), .string ((gt ms k).1.2), .string ((gt ms k).2.1), .string ((gt ms k).2.2)] 30)).cell? ⟨wr.heap.size, 0, none⟩ = some (Value.string ((gt ms k).1.1)) := by rw [World.cell?_alloc_at _ _ _ _ rfl]; rfl
            have e1 : (wr.alloc (.cells #[.string ((gt ms k).1.1), .string ((gt ms k).1.2), .string ((gt ms k).2.1), .string ((gt ms k).2.2)] 30)).cell? ⟨wr.heap.size, 1, none⟩ = some (Value.string ((gt ms k).1.2)) := by rw [World.cell?_alloc_at _ _ _ _ rfl]; rfl
            have e2 : (wr.alloc (.cells #[.string ((gt ms k).1.1), .string ((gt ms k).1.2), .string ((gt ms k).2.1), .string ((gt ms k).2.2)] 30)).cell? ⟨wr.heap.size, 2, none⟩ = some (Value.string ((gt ms k).2.1)) := by rw [World.cell?_alloc_at _ _ _ _ rfl]; rfl
            have e3 : (wr.alloc (.cells #[.string ((gt ms k).1.1), .string ((gt ms k).1.2), .string ((gt ms k).2.1), .string ((gt ms k).2.2)] 30)).cell? ⟨wr.heap.size, 3, none⟩ = some (Value.string ((gt ms k).2.2)) := by rw [World.cell?_alloc_at _ _ _ _ rfl]; rfl
            have c0 : wr.cell? ⟨b, off + k * 4, none⟩ = some (Value.string ((gt ms k).1.1)) := hc k 0 (by omega) (by omega)
            have c1 : wr.cell? ⟨b, off + k * 4 + 1, none⟩ = some (Value.string ((gt ms k).1.2)) := hc k 1 (by omega) (by omega)
            have c2 : wr.cell? ⟨b, off + k * 4 + 2, none⟩ = some (Value.string ((gt ms k).2.1)) := hc k 2 (by omega) (by omega)
            have c3 : wr.cell? ⟨b, off + k * 4 + 3, none⟩ = some (Value.string ((gt ms k).2.2)) := hc k 3 (by omega) (by omega)
            clear hc
            have hsz1 : wr.heap.size < (wr.alloc (.cells #[.string ((gt ms k).1.1), .string ((gt ms k).1.2), .string ((gt ms k).2.1), .string ((gt ms k).2.2)] 30)).heap.size := by simp
            have hcall := inCircle_any (some ⟨b, off, none⟩) cap B ms (gt ms k).1.1 (gt ms k).1.2 (gt ms k).2.1 (gt ms k).2.2 (wr.alloc (.cells #[.string ((gt ms k).1.1), .string ((gt ms k).1.2), .string ((gt ms k).2.1), .string ((gt ms k).2.2)] 30)) (hrr.alloc hBr _) (by omega) hl
            have hblW := hbl.alloc hbl.size (.cells #[.string ((gt ms k).1.1), .string ((gt ms k).1.2), .string ((gt ms k).2.1), .string ((gt ms k).2.2)] 30)
            by_cases hci : circB ms (gt ms k) = true
            · have hci' : circB ms (((gt ms k).1.1, (gt ms k).1.2), ((gt ms k).2.1, (gt ms k).2.2)) = true := hci
              rw [hci'] at hcall
              have HQ := Lib.hid (vdB_bad (Ok := OkM) (mx := 8) hlt (fun hk => by rw [hk.circ] at hci; cases hci))
              clear hci hci'
              have HC := Lib.hid hcall
              clear hcall
              go_wp2_with fail
              refine HC.out.mono ?_
              rintro e w5 ⟨rfl, hb5⟩
              go_wp2_with fail
              go_ret
              exact ⟨ret_bool HQ.out.symm, hblW.trans (hb5.mono hblW.size)⟩
            · have hci' : circB ms (((gt ms k).1.1, (gt ms k).1.2), ((gt ms k).2.1, (gt ms k).2.2)) = false := by simpa using hci
              rw [hci'] at hcall
              have HN : Hid (∀ j, j < k + 1 → circB ms (gt ms j) = false) := Lib.hid (fun j hj => by
                rcases Nat.lt_succ_iff_lt_or_eq.1 hj with h1 | rfl
                · exact hno.out j h1
                · simpa using hci)
              clear hci hci'
              have HC := Lib.hid hcall
              clear hcall
              go_wp2_with fail
              refine HC.out.mono ?_
              rintro e w5 ⟨rfl, hb5⟩
              go_wp2_with fail
              go_roundw
              case rel => exact ⟨k + 1, by omega, HN, by go_num, hblW.trans (hb5.mono hblW.size)⟩
              case measure => simp [intOf]; omega
          · obtain rfl : k = ms.length := by omega
            have HQ := Lib.hid (vdB_true (Ok := OkM) (mx := 8) ⟨hlen, fun j hj => OkM.of hj (hok.out j hj) (hno.out j hj)⟩)
            go_wp2_with fail
            go_ret
            exact ⟨ret_bool HQ.out.symm, hbl⟩
  · have hd : decide (8 < (ms.length : Int)) = true := decide_eq_true (by omega)
    have HQ := Lib.hid (vdB_long (Ok := OkM) (mx := 8) (xs := ms) (by omega))
    go_enter Try.func12, Try.ntmps12
    go_wp2_with fail
    go_ret
    exact ⟨ret_bool HQ.out.symm, Below.refl _ _⟩
end Go.Proofs.Ytdcppbaahoimfaa
