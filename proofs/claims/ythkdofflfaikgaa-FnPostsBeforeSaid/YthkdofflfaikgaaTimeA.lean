import Derived.Test.YthkdofflfaikgaaTimePlain
import Derived.Test.YthkdofflfaikgaaRange
namespace Go.Proofs.Ythkdofflfaikgaa
open Go.RowKit
theorem okP_of {p : ElPost} (ha : inB p.1 0 1000000000 = true) (hb : inB p.2 0 1000000000 = true) : OkP p := by
  simp only [inB, Bool.and_eq_true, decide_eq_true_eq] at ha hb
  exact ⟨ha.1, ha.2, hb.1, hb.2⟩
theorem l30Before_any (a b c d : Int) (w : World) : Calls Try.prog 32 #[.agg #[.int .i64 a, .int .i64 b], .agg #[.int .i64 c, .int .i64 d]] w fun e w' => e = .returned (.bool (befB (a, b) (c, d))) ∧ Below w.heap.size w w' := by
  by_cases h1 : c < a
  · have d1 : decide (c < a) = true := by simp [h1]
    have HQ := Lib.hid (befB_true (p := (a, b)) (q := (c, d)) (.inl h1))
    go_enter Try.func32, Try.ntmps32
    go_wp2
    go_ret
    exact ⟨ret_bool HQ.out.symm, (((Below.refl _ _).alloc (Nat.le_refl _) _).alloc (by simp) _)⟩
  · have d1 : decide (c < a) = false := by simp; omega
    by_cases h2 : a = c
    · have d2 : (a == c) = true := by simp [h2]
      by_cases h3 : d < b
      · have d3 : decide (d < b) = true := by simp [h3]
        have HQ := Lib.hid (befB_true (p := (a, b)) (q := (c, d)) (.inr ⟨h2, h3⟩))
        clear h2
        go_enter Try.func32, Try.ntmps32
        go_wp2
        go_ret
        exact ⟨ret_bool HQ.out.symm, (((Below.refl _ _).alloc (Nat.le_refl _) _).alloc (by simp) _)⟩
      · have d3 : decide (d < b) = false := by simp; omega
        have HQ := Lib.hid (befB_false (p := (a, b)) (q := (c, d)) (fun h => by unfold Bef at h; simp only at h; omega))
        clear h2
        go_enter Try.func32, Try.ntmps32
        go_wp2
        go_ret
        exact ⟨ret_bool HQ.out.symm, (((Below.refl _ _).alloc (Nat.le_refl _) _).alloc (by simp) _)⟩
    · have d2 : (a == c) = false := by simp [h2]
      have HQ := Lib.hid (befB_false (p := (a, b)) (q := (c, d)) (fun h => by unfold Bef at h; simp only at h; omega))
      go_enter Try.func32, Try.ntmps32
      go_wp2
      go_ret
      exact ⟨ret_bool HQ.out.symm, (((Below.refl _ _).alloc (Nat.le_refl _) _).alloc (by simp) _)⟩
theorem postBefore_any (a b c d : Int) (w : World) : Calls Try.prog 34 #[.agg #[.int .i64 a, .int .i64 b], .agg #[.int .i64 c, .int .i64 d]] w fun e w' => e = .returned (.bool (befB (a, b) (c, d))) ∧ Below w.heap.size w w' := by
  by_cases h1 : a = c
  · have d1 : (a != c) = false := by simp [h1]
    have HQ : Hid (decide (d < b) = befB (a, b) (c, d)) := Lib.hid (by unfold befB; exact decide_eq_decide.2 (by unfold Bef; simp only; omega))
    clear h1
    go_enter Try.func34, Try.ntmps34
    go_wp2
    go_ret
    exact ⟨ret_bool HQ.out, (((Below.refl _ _).alloc (Nat.le_refl _) _).alloc (by simp) _)⟩
  · have d1 : (a != c) = true := by simp [h1]
    have HQ : Hid (decide (c < a) = befB (a, b) (c, d)) := Lib.hid (by unfold befB; exact decide_eq_decide.2 (by unfold Bef; simp only; omega))
    clear h1
    go_enter Try.func34, Try.ntmps34
    go_wp2
    go_ret
    exact ⟨ret_bool HQ.out, (((Below.refl _ _).alloc (Nat.le_refl _) _).alloc (by simp) _)⟩
set_option maxHeartbeats 400000 in
theorem specTimelineValid_any (A : Option Addr) (cap B : Nat) (ps : List ElPost) (w : World) (h : RdE 2 encPost w B A ps) (hB : B ≤ w.heap.size) (hl : ps.length ≤ 140737488351232) :
    Calls Try.prog 12 #[.slice A ps.length cap] w fun e w' => e = .returned (.bool (tvB ps)) ∧ Below w.heap.size w w' := by
  go_enter Try.func12, Try.ntmps12
  go_wp2_with fail
  go_loopw [3] (fun i wr => ∃ k : Nat, k ≤ ps.length ∧ Hid (okUp ps k) ∧ i = .int .i64 k ∧ Below w.heap.size w wr) (fun i _ => ps.length - (intOf i).toNat)
  case atStart => exact ⟨0, Nat.zero_le _, Lib.hid (fun j hj => absurd hj (by omega)), rfl, Below.refl _ _⟩
  case round =>
    obtain ⟨k, hk, hok, rfl, hbl⟩ := hrel
    by_cases hlt : k < ps.length
    · obtain ⟨b, off, rfl, hb, hc⟩ := (h.below (hbl.mono hB)).at_ (by omega)
      have c0 : wr.cell? ⟨b, off + k * 2, none⟩ = some (Value.int .i64 ((gt ps k).1)) := hc k 0 (by omega) (by omega)
      have c1 : wr.cell? ⟨b, off + k * 2 + 1, none⟩ = some (Value.int .i64 ((gt ps k).2)) := hc k 1 (by omega) (by omega)
      by_cases ha : inB (gt ps k).1 0 1000000000 = true
      · by_cases hb2 : inB (gt ps k).2 0 1000000000 = true
        · by_cases h0 : k = 0
          · have hk0 : decide (0 < (k : Int)) = false := by simp; omega
            have hk00 : decide (0 < k) = false := by simp; omega
            have HN := Lib.hid (okUp_succ hok.out ⟨okP_of ha hb2, fun h => absurd h (by omega)⟩)
            clear hc h0
            go_wp2_with fail
            go_quiet ((go_at_call 31; exact quiet_of (l1In_any _ _ _ _)))
            go_wp2_with fail
            go_roundw
            case rel => exact ⟨k + 1, by omega, HN, by go_num, below_drewN hbl _⟩
            case measure => simp [intOf]; omega
          · have hk0 : decide (0 < (k : Int)) = true := by simp; omega
            have hk00 : decide (0 < k) = true := by simp; omega
            have p0 : wr.cell? ⟨b, off + (k - 1) * 2, none⟩ = some (Value.int .i64 ((gt ps (k - 1)).1)) := hc (k - 1) 0 (by omega) (by omega)
            have p1 : wr.cell? ⟨b, off + (k - 1) * 2 + 1, none⟩ = some (Value.int .i64 ((gt ps (k - 1)).2)) := hc (k - 1) 1 (by omega) (by omega)
            have hk1 : ((k : Int) - 1).toNat = k - 1 := by omega
            have hk2 : IntKind.i64.wrap ((k : Int) - 1) = (k : Int) - 1 := IntWalk.i64_in _ (by omega)
            have hk3 : (1 : Int) ≤ (k : Int) := by omega
            have hk4 : (0 : Int) ≤ (k : Int) - 1 := by omega
            have hk5 : (k : Int) - 1 < (ps.length : Int) := by omega
            clear hc
            by_cases hbf : befB (gt ps (k - 1)) (gt ps k) = true
            · have hbf' : befB ((gt ps (k - 1)).1, (gt ps (k - 1)).2) ((gt ps k).1, (gt ps k).2) = true := hbf
              have HN := Lib.hid (okUp_succ hok.out ⟨okP_of ha hb2, fun _ => Bef.of hbf⟩)
              clear hbf
              go_wp2_with fail
              refine wp_region_still_tail 29 (by kernel_rfl) (by kernel_rfl) ?_
              simp only [List.take_succ_cons, List.take_zero, List.drop_succ_cons, List.drop_zero]
              repeat (first | still_call (still_of (l1In_any _ _ _ _)) | still_step)
              refine wpStill_nil ?_
              go_wp2_with (go_at_call 32; refine (l30Before_any _ _ _ _ _).mono ?_; rintro e w1 ⟨rfl, hb1⟩)
              go_roundw
              case rel => exact ⟨k + 1, by omega, HN, by go_num, hbl.trans (((below_drew1 wr).trans hb1).mono (hbl.size))⟩
              case measure => simp [intOf]; omega
            · have hbf' : befB ((gt ps (k - 1)).1, (gt ps (k - 1)).2) ((gt ps k).1, (gt ps k).2) = false := by simpa using hbf
              have HQ := Lib.hid (tvB_bad hlt (fun h => hbf (befB_true (h.2 (by omega)))))
              clear hbf
              go_wp2_with fail
              refine wp_region_still_tail 29 (by kernel_rfl) (by kernel_rfl) ?_
              simp only [List.take_succ_cons, List.take_zero, List.drop_succ_cons, List.drop_zero]
              repeat (first | still_call (still_of (l1In_any _ _ _ _)) | still_step)
              refine wpStill_nil ?_
              go_wp2_with (go_at_call 32; refine (l30Before_any _ _ _ _ _).mono ?_; rintro e w1 ⟨rfl, hb1⟩)
              go_ret
              exact ⟨ret_bool HQ.out.symm, hbl.trans (((below_drew1 wr).trans hb1).mono (hbl.size))⟩
        · have hb2' : inB (gt ps k).2 0 1000000000 = false := by simpa using hb2
          have HQ := Lib.hid (tvB_bad hlt (fun h => hb2 (inB_true h.1.2.2.1 h.1.2.2.2)))
          clear hb2 hc
          go_wp2_with fail
          go_quiet ((go_at_call 31; exact quiet_of (l1In_any _ _ _ _)))
          go_wp2_with fail
          go_ret
          exact ⟨ret_bool HQ.out.symm, below_drewN hbl _⟩
      · have ha' : inB (gt ps k).1 0 1000000000 = false := by simpa using ha
        have HQ := Lib.hid (tvB_bad hlt (fun h => ha (inB_true h.1.1 h.1.2.1)))
        clear ha hc
        go_wp2_with fail
        go_quiet ((go_at_call 31; exact quiet_of (l1In_any _ _ _ _)))
        go_wp2_with fail
        go_ret
        exact ⟨ret_bool HQ.out.symm, below_drewN hbl _⟩
    · obtain rfl : k = ps.length := by omega
      go_wp2_with fail
      go_ret
      exact ⟨ret_bool (tvB_all hok.out), hbl⟩
end Go.Proofs.Ythkdofflfaikgaa
