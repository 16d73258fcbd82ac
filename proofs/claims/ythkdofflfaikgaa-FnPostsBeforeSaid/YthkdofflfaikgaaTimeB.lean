import Derived.Test.YthkdofflfaikgaaTimeA
namespace Go.Proofs.Ythkdofflfaikgaa
open Go.RowKit
set_option maxHeartbeats 400000 in
theorem implTimelineValid_any (A : Option Addr) (cap B : Nat) (ps : List ElPost) (w : World) (h : RdE 2 encPost w B A ps) (hB : B ≤ w.heap.size) (hl : ps.length ≤ 140737488351232) :
    Calls Try.prog 14 #[.slice A ps.length cap] w fun e w' => e = .returned (.bool (tvB ps)) ∧ Below w.heap.size w w' := by
  by_cases hlen : ps.length ≤ 40
  · have hd : decide (40 < (ps.length : Int)) = false := by simp; omega
    go_enter Try.func14, Try.ntmps14
    go_wp2_with fail
    go_loopw [10] (fun i wr => ∃ k : Nat, k ≤ ps.length ∧ Hid (okUp ps k) ∧ i = .int .i64 k ∧ Below w.heap.size w wr) (fun i _ => ps.length - (intOf i).toNat)
    case atStart => exact ⟨0, Nat.zero_le _, Lib.hid (fun j hj => absurd hj (by omega)), rfl, Below.refl _ _⟩
    case round =>
      obtain ⟨k, hk, hok, rfl, hbl⟩ := hrel
      by_cases hlt : k < ps.length
      · obtain ⟨b, off, rfl, hb, hc⟩ := (h.below (hbl.mono hB)).at_ (by omega)
        have hbs : b < wr.heap.size := by have := hbl.size; omega
        have e0 : (wr.alloc (.cells #[.int .i64 ((gt ps k).1), .int .i64 ((gt ps k).2)] 33)).cell? ⟨wr.heap.size, 0, none⟩ = some (Value.int .i64 ((gt ps k).1)) := by rw [World.cell?_alloc_at _ _ _ _ rfl]; rfl
        have e1 : (wr.alloc (.cells #[.int .i64 ((gt ps k).1), .int .i64 ((gt ps k).2)] 33)).cell? ⟨wr.heap.size, 1, none⟩ = some (Value.int .i64 ((gt ps k).2)) := by rw [World.cell?_alloc_at _ _ _ _ rfl]; rfl
        have c0 : wr.cell? ⟨b, off + k * 2, none⟩ = some (Value.int .i64 ((gt ps k).1)) := hc k 0 (by omega) (by omega)
        have c1 : wr.cell? ⟨b, off + k * 2 + 1, none⟩ = some (Value.int .i64 ((gt ps k).2)) := hc k 1 (by omega) (by omega)
        by_cases ha : inB (gt ps k).1 0 1000000000 = true
        · by_cases hb2 : inB (gt ps k).2 0 1000000000 = true
          · by_cases h0 : k = 0
            · have hk0 : decide (0 < (k : Int)) = false := by simp; omega
              have hk00 : decide (0 < k) = false := by simp; omega
              have HN := Lib.hid (okUp_succ hok.out ⟨okP_of ha hb2, fun h => absurd h (by omega)⟩)
              clear hc h0
              go_wp2_with fail
              go_quiet ((go_at_call 33; exact quiet_of (within_any _ _ _ _)))
              go_wp2_with fail
              go_roundw
              case rel => exact ⟨k + 1, by omega, HN, by go_num, below_drewN (hbl.alloc hbl.size _) _⟩
              case measure => simp [intOf]; omega
            · have hk0 : decide (0 < (k : Int)) = true := by simp; omega
              have hk00 : decide (0 < k) = true := by simp; omega
              have p0 : wr.cell? ⟨b, off + (k - 1) * 2, none⟩ = some (Value.int .i64 ((gt ps (k - 1)).1)) := hc (k - 1) 0 (by omega) (by omega)
              have p1 : wr.cell? ⟨b, off + (k - 1) * 2 + 1, none⟩ = some (Value.int .i64 ((gt ps (k - 1)).2)) := hc (k - 1) 1 (by omega) (by omega)
              have hk1 : ((k : Int) - 1).toNat = k - 1 := by omega
              have hk2 : IntKind.i64.wrap ((k : Int) - 1) = (k : Int) - 1 := IntWalk.i64_in _ (by omega)
              have hk3 : (1 : Int) ≤ (k : Int) := by omega
              have hk4 : (0 : Int) ≤ (k : Int) - 1 := by omega
              have hk5 : (k : Int) - 1 < (ps.length : Int) := by omega
              clear hc
              by_cases hbf : befB (gt ps (k - 1)) (gt ps k) = true
              · have hbf' : befB ((gt ps (k - 1)).1, (gt ps (k - 1)).2) ((gt ps k).1, (gt ps k).2) = true := hbf
                have HN := Lib.hid (okUp_succ hok.out ⟨okP_of ha hb2, fun _ => Bef.of hbf⟩)
                clear hbf
                have hsz1 : wr.heap.size < (wr.alloc (.cells #[.int .i64 ((gt ps k).1), .int .i64 ((gt ps k).2)] 33)).heap.size := by simp
                have p0' := (((Below.refl wr.heap.size wr).alloc (Nat.le_refl _) (.cells #[.int .i64 ((gt ps k).1), .int .i64 ((gt ps k).2)] 33)).cell (p := ⟨b, off + (k - 1) * 2, none⟩) hbs).trans p0
                have p1' := (((Below.refl wr.heap.size wr).alloc (Nat.le_refl _) (.cells #[.int .i64 ((gt ps k).1), .int .i64 ((gt ps k).2)] 33)).cell (p := ⟨b, off + (k - 1) * 2 + 1, none⟩) hbs).trans p1
                have hblW := hbl.alloc hbl.size (.cells #[.int .i64 ((gt ps k).1), .int .i64 ((gt ps k).2)] 33)
                go_wp2_with fail
                generalize (wr.alloc (.cells #[.int .i64 ((gt ps k).1), .int .i64 ((gt ps k).2)] 33)) = W at *
                refine wp_region_still_tail 20 (by kernel_rfl) (by kernel_rfl) ?_
                simp only [List.take_succ_cons, List.take_zero, List.drop_succ_cons, List.drop_zero]
                repeat (first | still_call (still_of (within_any _ _ _ _)) | still_step)
                refine wpStill_nil ?_
                go_wp2_with (go_at_call 34; refine (postBefore_any _ _ _ _ _).mono ?_; rintro e w1 ⟨rfl, hb1⟩)
                go_roundw
                case rel => exact ⟨k + 1, by omega, HN, by go_num, hblW.trans (((below_drew1 _).trans hb1).mono hblW.size)⟩
                case measure => simp [intOf]; omega
              · have hbf' : befB ((gt ps (k - 1)).1, (gt ps (k - 1)).2) ((gt ps k).1, (gt ps k).2) = false := by simpa using hbf
                have HQ := Lib.hid (tvB_bad hlt (fun h => hbf (befB_true (h.2 (by omega)))))
                clear hbf
                have hsz1 : wr.heap.size < (wr.alloc (.cells #[.int .i64 ((gt ps k).1), .int .i64 ((gt ps k).2)] 33)).heap.size := by simp
                have p0' := (((Below.refl wr.heap.size wr).alloc (Nat.le_refl _) (.cells #[.int .i64 ((gt ps k).1), .int .i64 ((gt ps k).2)] 33)).cell (p := ⟨b, off + (k - 1) * 2, none⟩) hbs).trans p0
                have p1' := (((Below.refl wr.heap.size wr).alloc (Nat.le_refl _) (.cells #[.int .i64 ((gt ps k).1), .int .i64 ((gt ps k).2)] 33)).cell (p := ⟨b, off + (k - 1) * 2 + 1, none⟩) hbs).trans p1
                have hblW := hbl.alloc hbl.size (.cells #[.int .i64 ((gt ps k).1), .int .i64 ((gt ps k).2)] 33)
                go_wp2_with fail
                generalize (wr.alloc (.cells #[.int .i64 ((gt ps k).1), .int .i64 ((gt ps k).2)] 33)) = W at *
                refine wp_region_still_tail 20 (by kernel_rfl) (by kernel_rfl) ?_
                simp only [List.take_succ_cons, List.take_zero, List.drop_succ_cons, List.drop_zero]
                repeat (first | still_call (still_of (within_any _ _ _ _)) | still_step)
                refine wpStill_nil ?_
                go_wp2_with (go_at_call 34; refine (postBefore_any _ _ _ _ _).mono ?_; rintro e w1 ⟨rfl, hb1⟩)
                go_ret
                exact ⟨ret_bool HQ.out.symm, hblW.trans (((below_drew1 _).trans hb1).mono hblW.size)⟩
          · have hb2' : inB (gt ps k).2 0 1000000000 = false := by simpa using hb2
            have HQ := Lib.hid (tvB_bad hlt (fun h => hb2 (inB_true h.1.2.2.1 h.1.2.2.2)))
            clear hb2 hc
            go_wp2_with fail
            go_quiet ((go_at_call 33; exact quiet_of (within_any _ _ _ _)))
            go_wp2_with fail
            go_ret
            exact ⟨ret_bool HQ.out.symm, below_drewN (hbl.alloc hbl.size _) _⟩
        · have ha' : inB (gt ps k).1 0 1000000000 = false := by simpa using ha
          have HQ := Lib.hid (tvB_bad hlt (fun h => ha (inB_true h.1.1 h.1.2.1)))
          clear ha hc
          go_wp2_with fail
          go_quiet ((go_at_call 33; exact quiet_of (within_any _ _ _ _)))
          go_wp2_with fail
          go_ret
          exact ⟨ret_bool HQ.out.symm, below_drewN (hbl.alloc hbl.size _) _⟩
      · obtain rfl : k = ps.length := by omega
        go_wp2_with fail
        go_ret
        exact ⟨ret_bool (tvB_true hlen hok.out).symm, hbl⟩
  · have hd : decide (40 < (ps.length : Int)) = true := by simp; omega
    go_enter Try.func14, Try.ntmps14
    go_wp2_with fail
    go_ret
    exact ⟨ret_bool (tvB_long (by omega)).symm, Below.refl _ _⟩
end Go.Proofs.Ythkdofflfaikgaa
