import Derived.Test.YthkdofflfaikgaaTimeB
import Derived.Test.YthkdofflfaikgaaTimePlain3
import Derived.Test.YthkdofflfaikgaaTail
namespace Go.Proofs.Ythkdofflfaikgaa
open Go.RowKit
set_option maxRecDepth 100000 in
set_option maxHeartbeats 3200000 in
theorem specMergeTimelines_yes (A A' : Option Addr) (cap cap' B : Nat) (xs ys : List ElPost) (w : World) (h : RdE 2 encPost w B A xs) (h' : RdE 2 encPost w B A' ys) (hB : B ≤ w.heap.size) (hl : xs.length ≤ 140737488351232) (hl' : ys.length ≤ 140737488351232) (hv : tvB xs = true ∧ tvB ys = true) :
    Calls Try.prog 25 #[.slice A xs.length cap, .slice A' ys.length cap'] w fun e w' => ∃ T' c', e = .returned (.slice T' (mergeOf xs ys).length c') ∧ OwnE 2 encPost 33 w' w.heap.size T' c' (mergeOf xs ys) ∧ Below w.heap.size w w' := by
  have hemp : OwnE 2 encPost 33 (w.alloc (.cells #[] 33)) w.heap.size (some ⟨w.heap.size, 0, none⟩) 0 ([] : List ElPost) := Own.lit w 33 2 0 #[] _ (Nat.zero_le _) rfl
  have hemb : Below w.heap.size w (w.alloc (.cells #[] 33)) := (Below.refl _ _).alloc (Nat.le_refl _) _
  · obtain ⟨hv, hv'⟩ := hv
    have h40 := (Tv.of hv).1
    have h40' := (Tv.of hv').1
    go_enter Try.func25, Try.ntmps25
    go_wp2_with fail
    go_loopw [5, 6, 7] (fun v kk jj wr => ∃ (k j : Nat) (T : Option Addr) (c : Nat) (cur : List ElPost), k ≤ xs.length ∧ j ≤ ys.length ∧ kk = .int .i64 k ∧ jj = .int .i64 j ∧ v = .slice T cur.length c ∧ cur.length ≤ 40 ∧ Hid (mg xs ys = cur ++ mg (xs.drop k) (ys.drop j)) ∧ OwnE 2 encPost 33 wr w.heap.size T c cur ∧ Below w.heap.size w wr) (fun _ kk jj _ => (xs.length - (intOf kk).toNat) + (ys.length - (intOf jj).toNat))
    case atStart => exact ⟨0, 0, _, 0, [], Nat.zero_le _, Nat.zero_le _, rfl, rfl, rfl, Nat.zero_le _, Lib.hid rfl, hemp, hemb⟩
    case round =>
      clear hemp hemb
      obtain ⟨k, j, T, c, cur, hk, hj, rfl, rfl, rfl, hcl, HM, hown, hbl⟩ := hrel
      have hsz := hbl.size
      by_cases hfull : cur.length < 40
      · have f1 : decide ((cur.length : Int) < 40) = true := by simp; omega
        by_cases hlt : k < xs.length
        · have e1 : ((k : Int) == (xs.length : Int)) = false := by simp; omega
          have k1 : decide ((k : Int) < (xs.length : Int)) = true := by simp; omega
          have k2 : decide (k < xs.length) = true := by simp; omega
          by_cases hlj : j < ys.length
          · have e2 : ((j : Int) == (ys.length : Int)) = false := by simp; omega
            have j1 : decide ((j : Int) < (ys.length : Int)) = true := by simp; omega
            have j2 : decide (j < ys.length) = true := by simp; omega
            go_wp2_with fail
            refine (specTimelineValid_any _ _ B xs wr (h.below (hbl.mono hB)) (Nat.le_trans hB hbl.size) hl).mono ?_
            rintro e w1 ⟨rfl, hb1⟩
            have hbl1 := hbl.trans (hb1.mono hsz)
            have hsz1 := hbl1.size
            go_wp2_with fail
            refine (specTimelineValid_any _ _ B ys w1 (h'.below (hbl1.mono hB)) (Nat.le_trans hB hsz1) hl').mono ?_
            rintro e w2 ⟨rfl, hb2⟩
            have hbl2 := hbl1.trans (hb2.mono hsz1)
            have hsz2 := hbl2.size
            have hown2 := Own.below (Own.below hown hb1) hb2
            clear hown hb1 hb2 hbl hbl1
            obtain ⟨b, off, rfl, hb, hc⟩ := (h.below (hbl2.mono hB)).at_ (by omega)
            have c0 : w2.cell? ⟨b, off + k * 2, none⟩ = some (Value.int .i64 ((gt xs k).1)) := hc k 0 (by omega) (by omega)
            have c1 : w2.cell? ⟨b, off + k * 2 + 1, none⟩ = some (Value.int .i64 ((gt xs k).2)) := hc k 1 (by omega) (by omega)
            clear hc
            obtain ⟨b', off', rfl, hb', hc'⟩ := (h'.below (hbl2.mono hB)).at_ (by omega)
            have d0 : w2.cell? ⟨b', off' + j * 2, none⟩ = some (Value.int .i64 ((gt ys j).1)) := hc' j 0 (by omega) (by omega)
            have d1 : w2.cell? ⟨b', off' + j * 2 + 1, none⟩ = some (Value.int .i64 ((gt ys j).2)) := hc' j 1 (by omega) (by omega)
            clear hc'
            have hbs : b < w2.heap.size := by omega
            have hbs' : b' < w2.heap.size := by omega
            by_cases hbf : befB (gt xs k) (gt ys j) = true
            · have q1 : befB ((gt xs k).1, (gt xs k).2) ((gt ys j).1, (gt ys j).2) = true := hbf
              have HS := Lib.hid (mg_first (ys := ys) (j := j) hlt (.inr hbf))
              clear hbf
              go_wp2_with fail
              refine wp_region_still_tail 18 (by kernel_rfl) (by kernel_rfl) ?_
              simp only [List.take_succ_cons, List.take_zero, List.drop_succ_cons, List.drop_zero]
              repeat still_step
              refine wpStill_nil ?_
              go_wp2_with (first | (go_at_call 32; refine (l30Before_any _ _ _ _ _).mono ?_; rintro e w3 ⟨rfl, hqw3⟩; have hpw3 := (below_drew1 (B := w2.heap.size) w2).trans hqw3; have nc0w3 := (hpw3.cell (by assumption)).trans c0; have nc1w3 := (hpw3.cell (by assumption)).trans c1; have hown3 := Own.below hown2 hpw3; have hbl3 := hbl2.trans (hpw3.mono hsz2); have hsz3 := hbl3.size; clear c0 c1 d0 d1 hbl2 hown2) | (at_builtin; refine wpList_app rfl (.tmp 65) (.tmp 70) _ rfl w.heap.size 33 _ 2 16 Try.underlying25 info_Post rfl (by omega) T (some ⟨w3.heap.size, 0, none⟩) cur.length c 1 1 (w3.heap.size + 1) (cE 2 encPost cur) (encPost (gt xs k)) rfl rfl (Own.below hown3 ((Below.refl _ _).alloc (Nat.le_refl _) _)) (rd_elem _ _ _ _ (fun j hj => by rcases (by omega : j = 0 ∨ j = 1) with rfl | rfl <;> rfl)) (fun _ _ => encPost_one _ _) (by simp only [maxLen]; omega) (by omega) (by first | omega | (simp; done) | (simp; omega)) ?_; intro T1 cap1 w4 hown4 hg4))
              go_roundw
              case rel => exact ⟨k + 1, j, T1, cap1, cur ++ [gt xs k], by omega, by omega, by go_num, by go_num, by rw [List.length_append]; rfl, by rw [List.length_append]; simp; omega, Lib.hid (by rw [HM.out, HS.out, List.append_assoc]; rfl), OwnE.snoc (by omega) hown4, hbl3.trans (((Below.refl _ _).alloc hsz3 _).trans (grown_below hg4 (fun b hb => (Own.lt hown3 hb).1) (by first | omega | (simp; done) | (simp; omega))))⟩
              case measure => simp [intOf]; omega
            · have q1 : befB ((gt xs k).1, (gt xs k).2) ((gt ys j).1, (gt ys j).2) = false := by simpa using hbf
              have hbf' : befB (gt xs k) (gt ys j) = false := by simpa using hbf
              clear hbf
              by_cases hbg : befB (gt ys j) (gt xs k) = true
              · have q2 : befB ((gt ys j).1, (gt ys j).2) ((gt xs k).1, (gt xs k).2) = true := hbg
                have HS := Lib.hid (mg_second (xs := xs) (k := k) hlj (.inr ⟨hbf', hbg⟩))
                clear hbg hbf'
                go_wp2_with fail
                refine wp_region_still_tail 18 (by kernel_rfl) (by kernel_rfl) ?_
                simp only [List.take_succ_cons, List.take_zero, List.drop_succ_cons, List.drop_zero]
                repeat still_step
                refine wpStill_nil ?_
                go_wp2_with (go_at_call 32; refine (l30Before_any _ _ _ _ _).mono ?_; rintro e w5 ⟨rfl, hqw5⟩; have hpw5 := (below_drew1 (B := w2.heap.size) w2).trans hqw5; have nc0w5 := (hpw5.cell (by assumption)).trans c0; have nc1w5 := (hpw5.cell (by assumption)).trans c1; have nd0w5 := (hpw5.cell (by assumption)).trans d0; have nd1w5 := (hpw5.cell (by assumption)).trans d1; have hown5 := Own.below hown2 hpw5; have hbl5 := hbl2.trans (hpw5.mono hsz2); have hsz5 := hbl5.size)
                have hbt : b < w5.heap.size := by omega
                have hbt' : b' < w5.heap.size := by omega
                clear c0 c1 d0 d1 hown2 hbl2
                go_wp2_with fail
                refine wp_region_still_tail 13 (by kernel_rfl) (by kernel_rfl) ?_
                simp only [List.take_succ_cons, List.take_zero, List.drop_succ_cons, List.drop_zero]
                repeat still_step
                refine wpStill_nil ?_
                go_wp2_with (first | (go_at_call 32; refine (l30Before_any _ _ _ _ _).mono ?_; rintro e w3 ⟨rfl, hqw3⟩; have hpw3 := (below_drew1 (B := w5.heap.size) w5).trans hqw3; have nnc0w5w3 := (hpw3.cell (by assumption)).trans nc0w5; have nnc1w5w3 := (hpw3.cell (by assumption)).trans nc1w5; have nnd0w5w3 := (hpw3.cell (by assumption)).trans nd0w5; have nnd1w5w3 := (hpw3.cell (by assumption)).trans nd1w5; have hown3 := Own.below hown5 hpw3; have hbl3 := hbl5.trans (hpw3.mono hsz5); have hsz3 := hbl3.size; clear nc0w5 nc1w5 nd0w5 nd1w5 hown5 hbl5) | (at_builtin; refine wpList_app rfl (.tmp 90) (.tmp 95) _ rfl w.heap.size 33 _ 2 16 Try.underlying25 info_Post rfl (by omega) T (some ⟨w3.heap.size, 0, none⟩) cur.length c 1 1 (w3.heap.size + 1) (cE 2 encPost cur) (encPost (gt ys j)) rfl rfl (Own.below hown3 ((Below.refl _ _).alloc (Nat.le_refl _) _)) (rd_elem _ _ _ _ (fun j hj => by rcases (by omega : j = 0 ∨ j = 1) with rfl | rfl <;> rfl)) (fun _ _ => encPost_one _ _) (by simp only [maxLen]; omega) (by omega) (by first | omega | (simp; done) | (simp; omega)) ?_; intro T1 cap1 w4 hown4 hg4))
                go_roundw
                case rel => exact ⟨k, j + 1, T1, cap1, cur ++ [gt ys j], by omega, by omega, by go_num, by go_num, by rw [List.length_append]; rfl, by rw [List.length_append]; simp; omega, Lib.hid (by rw [HM.out, HS.out, List.append_assoc]; rfl), OwnE.snoc (by omega) hown4, hbl3.trans (((Below.refl _ _).alloc hsz3 _).trans (grown_below hg4 (fun b hb => (Own.lt hown3 hb).1) (by first | omega | (simp; done) | (simp; omega))))⟩
                case measure => simp [intOf]; omega
              · have q2 : befB ((gt ys j).1, (gt ys j).2) ((gt xs k).1, (gt xs k).2) = false := by simpa using hbg
                have HS := Lib.hid (mg_both hlt hlj hbf' (by simpa using hbg))
                clear hbg hbf'
                go_wp2_with fail
                refine wp_region_still_tail 18 (by kernel_rfl) (by kernel_rfl) ?_
                simp only [List.take_succ_cons, List.take_zero, List.drop_succ_cons, List.drop_zero]
                repeat still_step
                refine wpStill_nil ?_
                go_wp2_with (go_at_call 32; refine (l30Before_any _ _ _ _ _).mono ?_; rintro e w5 ⟨rfl, hqw5⟩; have hpw5 := (below_drew1 (B := w2.heap.size) w2).trans hqw5; have nc0w5 := (hpw5.cell (by assumption)).trans c0; have nc1w5 := (hpw5.cell (by assumption)).trans c1; have nd0w5 := (hpw5.cell (by assumption)).trans d0; have nd1w5 := (hpw5.cell (by assumption)).trans d1; have hown5 := Own.below hown2 hpw5; have hbl5 := hbl2.trans (hpw5.mono hsz2); have hsz5 := hbl5.size)
                have hbt : b < w5.heap.size := by omega
                have hbt' : b' < w5.heap.size := by omega
                clear c0 c1 d0 d1 hown2 hbl2
                go_wp2_with fail
                refine wp_region_still_tail 13 (by kernel_rfl) (by kernel_rfl) ?_
                simp only [List.take_succ_cons, List.take_zero, List.drop_succ_cons, List.drop_zero]
                repeat still_step
                refine wpStill_nil ?_
                go_wp2_with (first | (go_at_call 32; refine (l30Before_any _ _ _ _ _).mono ?_; rintro e w3 ⟨rfl, hqw3⟩; have hpw3 := (below_drew1 (B := w5.heap.size) w5).trans hqw3; have nnc0w5w3 := (hpw3.cell (by assumption)).trans nc0w5; have nnc1w5w3 := (hpw3.cell (by assumption)).trans nc1w5; have nnd0w5w3 := (hpw3.cell (by assumption)).trans nd0w5; have nnd1w5w3 := (hpw3.cell (by assumption)).trans nd1w5; have hown3 := Own.below hown5 hpw3; have hbl3 := hbl5.trans (hpw3.mono hsz5); have hsz3 := hbl3.size; clear nc0w5 nc1w5 nd0w5 nd1w5 hown5 hbl5) | (at_builtin; refine wpList_app rfl (.tmp 32) (.tmp 37) _ rfl w.heap.size 33 _ 2 16 Try.underlying25 info_Post rfl (by omega) T (some ⟨w3.heap.size, 0, none⟩) cur.length c 1 1 (w3.heap.size + 1) (cE 2 encPost cur) (encPost (gt xs k)) rfl rfl (Own.below hown3 ((Below.refl _ _).alloc (Nat.le_refl _) _)) (rd_elem _ _ _ _ (fun j hj => by rcases (by omega : j = 0 ∨ j = 1) with rfl | rfl <;> rfl)) (fun _ _ => encPost_one _ _) (by simp only [maxLen]; omega) (by omega) (by first | omega | (simp; done) | (simp; omega)) ?_; intro T1 cap1 w4 hown4 hg4))
                go_roundw
                case rel => exact ⟨k + 1, j + 1, T1, cap1, cur ++ [gt xs k], by omega, by omega, by go_num, by go_num, by rw [List.length_append]; rfl, by rw [List.length_append]; simp; omega, Lib.hid (by rw [HM.out, HS.out, List.append_assoc]; rfl), OwnE.snoc (by omega) hown4, hbl3.trans (((Below.refl _ _).alloc hsz3 _).trans (grown_below hg4 (fun b hb => (Own.lt hown3 hb).1) (by first | omega | (simp; done) | (simp; omega))))⟩
                case measure => simp [intOf]; omega
          · obtain rfl : j = ys.length := by omega
            have HS := Lib.hid (mg_first (ys := ys) (j := ys.length) hlt (.inl (Nat.le_refl _)))
            go_wp2_with fail
            refine (specTimelineValid_any _ _ B xs wr (h.below (hbl.mono hB)) (Nat.le_trans hB hbl.size) hl).mono ?_
            rintro e w1 ⟨rfl, hb1⟩
            have hbl1 := hbl.trans (hb1.mono hsz)
            have hsz1 := hbl1.size
            go_wp2_with fail
            refine (specTimelineValid_any _ _ B ys w1 (h'.below (hbl1.mono hB)) (Nat.le_trans hB hsz1) hl').mono ?_
            rintro e w2 ⟨rfl, hb2⟩
            have hbl2 := hbl1.trans (hb2.mono hsz1)
            have hsz2 := hbl2.size
            have hown2 := Own.below (Own.below hown hb1) hb2
            clear hown hb1 hb2 hbl hbl1
            obtain ⟨b, off, rfl, hb, hc⟩ := (h.below (hbl2.mono hB)).at_ (by omega)
            have c0 : w2.cell? ⟨b, off + k * 2, none⟩ = some (Value.int .i64 ((gt xs k).1)) := hc k 0 (by omega) (by omega)
            have c1 : w2.cell? ⟨b, off + k * 2 + 1, none⟩ = some (Value.int .i64 ((gt xs k).2)) := hc k 1 (by omega) (by omega)
            clear hc
            go_wp2_with fail
            go_quiet (fail)
            have hown3 := Own.drewN hown2 nq
            have hbl3 := below_drewN hbl2 nq
            have hsz3 : w.heap.size ≤ (w2.drewN nq).heap.size := hsz2
            replace c0 : (w2.drewN nq).cell? ⟨b, off + k * 2, none⟩ = some (Value.int .i64 ((gt xs k).1)) := c0
            replace c1 : (w2.drewN nq).cell? ⟨b, off + k * 2 + 1, none⟩ = some (Value.int .i64 ((gt xs k).2)) := c1
            clear hown2 hbl2 hsz2
            generalize w2.drewN nq = w3 at *
            go_wp2_with (at_builtin; refine wpList_app rfl (.tmp 65) (.tmp 70) _ rfl w.heap.size 33 _ 2 16 Try.underlying25 info_Post rfl (by omega) T (some ⟨w3.heap.size, 0, none⟩) cur.length c 1 1 (w3.heap.size + 1) (cE 2 encPost cur) (encPost (gt xs k)) rfl rfl (Own.below hown3 ((Below.refl _ _).alloc (Nat.le_refl _) _)) (rd_elem _ _ _ _ (fun j hj => by rcases (by omega : j = 0 ∨ j = 1) with rfl | rfl <;> rfl)) (fun _ _ => encPost_one _ _) (by simp only [maxLen]; omega) (by omega) (by first | omega | (simp; done) | (simp; omega)) ?_; intro T1 cap1 w4 hown4 hg4)
            go_roundw
            case rel => exact ⟨k + 1, ys.length, T1, cap1, cur ++ [gt xs k], by omega, by omega, by go_num, by go_num, by rw [List.length_append]; rfl, by rw [List.length_append]; simp; omega, Lib.hid (by rw [HM.out, HS.out, List.append_assoc]; rfl), OwnE.snoc (by omega) hown4, hbl3.trans (((Below.refl _ _).alloc hsz3 _).trans (grown_below hg4 (fun b hb => (Own.lt hown3 hb).1) (by first | omega | (simp; done) | (simp; omega))))⟩
            case measure => simp [intOf]; omega
        · obtain rfl : k = xs.length := by omega
          by_cases hlj : j < ys.length
          · have e2 : ((j : Int) == (ys.length : Int)) = false := by simp; omega
            have HS := Lib.hid (mg_second (xs := xs) (k := xs.length) hlj (.inl (Nat.le_refl _)))
            have j1 : decide ((j : Int) < (ys.length : Int)) = true := by simp; omega
            have j2 : decide (j < ys.length) = true := by simp; omega
            go_wp2_with fail
            refine (specTimelineValid_any _ _ B xs wr (h.below (hbl.mono hB)) (Nat.le_trans hB hbl.size) hl).mono ?_
            rintro e w1 ⟨rfl, hb1⟩
            have hbl1 := hbl.trans (hb1.mono hsz)
            have hsz1 := hbl1.size
            go_wp2_with fail
            refine (specTimelineValid_any _ _ B ys w1 (h'.below (hbl1.mono hB)) (Nat.le_trans hB hsz1) hl').mono ?_
            rintro e w2 ⟨rfl, hb2⟩
            have hbl2 := hbl1.trans (hb2.mono hsz1)
            have hsz2 := hbl2.size
            have hown2 := Own.below (Own.below hown hb1) hb2
            clear hown hb1 hb2 hbl hbl1
            obtain ⟨b', off', rfl, hb', hc'⟩ := (h'.below (hbl2.mono hB)).at_ (by omega)
            have d0 : w2.cell? ⟨b', off' + j * 2, none⟩ = some (Value.int .i64 ((gt ys j).1)) := hc' j 0 (by omega) (by omega)
            have d1 : w2.cell? ⟨b', off' + j * 2 + 1, none⟩ = some (Value.int .i64 ((gt ys j).2)) := hc' j 1 (by omega) (by omega)
            clear hc'
            go_wp2_with fail
            go_quiet (fail)
            have hown3 := Own.drewN hown2 nq
            have hbl3 := below_drewN hbl2 nq
            have hsz3 : w.heap.size ≤ (w2.drewN nq).heap.size := hsz2
            replace d0 : (w2.drewN nq).cell? ⟨b', off' + j * 2, none⟩ = some (Value.int .i64 ((gt ys j).1)) := d0
            replace d1 : (w2.drewN nq).cell? ⟨b', off' + j * 2 + 1, none⟩ = some (Value.int .i64 ((gt ys j).2)) := d1
            clear hown2 hbl2 hsz2
            generalize w2.drewN nq = w3 at *
            go_wp2_with fail
            go_quiet (fail)
            have hown5 := Own.drewN hown3 nq
            have hbl5 := below_drewN hbl3 nq
            have hsz5 : w.heap.size ≤ (w3.drewN nq).heap.size := hsz3
            replace d0 : (w3.drewN nq).cell? ⟨b', off' + j * 2, none⟩ = some (Value.int .i64 ((gt ys j).1)) := d0
            replace d1 : (w3.drewN nq).cell? ⟨b', off' + j * 2 + 1, none⟩ = some (Value.int .i64 ((gt ys j).2)) := d1
            clear hown3 hbl3 hsz3
            generalize w3.drewN nq = w5 at *
            have hown3 := hown5
            have hsz3 := hsz5
            go_wp2_with (at_builtin; refine wpList_app rfl (.tmp 90) (.tmp 95) _ rfl w.heap.size 33 _ 2 16 Try.underlying25 info_Post rfl (by omega) T (some ⟨w5.heap.size, 0, none⟩) cur.length c 1 1 (w5.heap.size + 1) (cE 2 encPost cur) (encPost (gt ys j)) rfl rfl (Own.below hown3 ((Below.refl _ _).alloc (Nat.le_refl _) _)) (rd_elem _ _ _ _ (fun j hj => by rcases (by omega : j = 0 ∨ j = 1) with rfl | rfl <;> rfl)) (fun _ _ => encPost_one _ _) (by simp only [maxLen]; omega) (by omega) (by first | omega | (simp; done) | (simp; omega)) ?_; intro T1 cap1 w4 hown4 hg4)
            go_roundw
            case rel => exact ⟨xs.length, j + 1, T1, cap1, cur ++ [gt ys j], by omega, by omega, by go_num, by go_num, by rw [List.length_append]; rfl, by rw [List.length_append]; simp; omega, Lib.hid (by rw [HM.out, HS.out, List.append_assoc]; rfl), OwnE.snoc (by omega) hown4, hbl5.trans (((Below.refl _ _).alloc hsz3 _).trans (grown_below hg4 (fun b hb => (Own.lt hown3 hb).1) (by first | omega | (simp; done) | (simp; omega))))⟩
            case measure => simp [intOf]; omega
          · obtain rfl : j = ys.length := by omega
            have HE := Lib.hid (mergeOf_end hv hv' HM.out hcl (.inl ⟨Nat.le_refl _, Nat.le_refl _⟩))
            go_wp2_with fail
            go_ret
            rw [HE.out]
            exact ⟨_, _, rfl, hown, hbl⟩
      · have f1 : decide ((cur.length : Int) < 40) = false := by simp; omega
        by_cases hor : k < xs.length
        ·
          have k1 : decide ((k : Int) < (xs.length : Int)) = true := by simp; omega
          have k2 : decide (k < xs.length) = true := by simp; omega
          have HE := Lib.hid (mergeOf_end hv hv' HM.out hcl (.inr (by omega)))
          go_wp2_with fail
          go_ret
          rw [HE.out]
          exact ⟨_, _, rfl, hown, hbl⟩
        · obtain rfl : k = xs.length := by omega
          by_cases hor2 : j < ys.length
          ·
            have j1 : decide ((j : Int) < (ys.length : Int)) = true := by simp; omega
            have j2 : decide (j < ys.length) = true := by simp; omega
            have HE := Lib.hid (mergeOf_end hv hv' HM.out hcl (.inr (by omega)))
            go_wp2_with fail
            go_ret
            rw [HE.out]
            exact ⟨_, _, rfl, hown, hbl⟩
          · obtain rfl : j = ys.length := by omega
            have HE := Lib.hid (mergeOf_end hv hv' HM.out hcl (.inr (by omega)))
            go_wp2_with fail
            go_ret
            rw [HE.out]
            exact ⟨_, _, rfl, hown, hbl⟩
set_option maxRecDepth 100000 in
set_option maxHeartbeats 800000 in
theorem specMergeTimelines_no (A A' : Option Addr) (cap cap' B : Nat) (xs ys : List ElPost) (w : World) (h : RdE 2 encPost w B A xs) (h' : RdE 2 encPost w B A' ys) (hB : B ≤ w.heap.size) (hl : xs.length ≤ 140737488351232) (hl' : ys.length ≤ 140737488351232) (hv : ¬ (tvB xs = true ∧ tvB ys = true)) :
    Calls Try.prog 25 #[.slice A xs.length cap, .slice A' ys.length cap'] w fun e w' => ∃ T' c', e = .returned (.slice T' (mergeOf xs ys).length c') ∧ OwnE 2 encPost 33 w' w.heap.size T' c' (mergeOf xs ys) ∧ Below w.heap.size w w' := by
  have hemp : OwnE 2 encPost 33 (w.alloc (.cells #[] 33)) w.heap.size (some ⟨w.heap.size, 0, none⟩) 0 ([] : List ElPost) := Own.lit w 33 2 0 #[] _ (Nat.zero_le _) rfl
  have hemb : Below w.heap.size w (w.alloc (.cells #[] 33)) := (Below.refl _ _).alloc (Nat.le_refl _) _
  rw [mergeOf_no hv]
  by_cases h0 : 0 < xs.length
  · have k1 : decide ((0 : Int) < (xs.length : Int)) = true := decide_eq_true (by omega)
    by_cases hx : tvB xs = true
    · have hy : tvB ys = false := by
        cases hq : tvB ys
        · rfl
        · exact absurd ⟨hx, hq⟩ hv
      clear hv
      go_enter Try.func25, Try.ntmps25
      go_wp2_with fail
      refine wp_loop_rounds 1 ?_
      rw [rounds_succ]
      go_wp2_with fail
      refine (specTimelineValid_any _ _ B xs _ (h.alloc hB _) (by simp; omega) (by first | omega | simp)).mono ?_
      rintro e w1 ⟨rfl, hb1⟩
      have hbl1 := hemb.trans (hb1.mono (by simp))
      have hown1 := Own.below hemp hb1
      have hsz1 := hbl1.size
      go_wp2_with fail
      refine (specTimelineValid_any _ _ B ys w1 (h'.below (hbl1.mono hB)) (Nat.le_trans hB hsz1) hl').mono ?_
      rintro e w2 ⟨rfl, hb2⟩
      have hbl2 := hbl1.trans (hb2.mono hsz1)
      have hown2 := Own.below hown1 hb2
      go_wp2_with fail
      go_ret
      exact ⟨_, _, rfl, hown2, hbl2⟩
    · have hx' : tvB xs = false := by simpa using hx
      clear hv hx
      go_enter Try.func25, Try.ntmps25
      go_wp2_with fail
      refine wp_loop_rounds 1 ?_
      rw [rounds_succ]
      go_wp2_with fail
      refine (specTimelineValid_any _ _ B xs _ (h.alloc hB _) (by simp; omega) (by first | omega | simp)).mono ?_
      rintro e w1 ⟨rfl, hb1⟩
      have hbl1 := hemb.trans (hb1.mono (by simp))
      have hown1 := Own.below hemp hb1
      have hsz1 := hbl1.size
      go_wp2_with fail
      go_ret
      exact ⟨_, _, rfl, hown1, hbl1⟩
  · obtain rfl : xs = [] := List.eq_nil_of_length_eq_zero (by omega)
    have hx : tvB ([] : List ElPost) = true := rfl
    have hy : tvB ys = false := by
      cases hq : tvB ys
      · rfl
      · exact absurd ⟨hx, hq⟩ hv
    have h1 : 0 < ys.length := by
      rcases Nat.eq_zero_or_pos ys.length with h1 | h1
      · rw [List.eq_nil_of_length_eq_zero h1] at hy; cases hy
      · exact h1
    have k1 : decide ((0 : Int) < (ys.length : Int)) = true := decide_eq_true (by omega)
    clear hv h0
    go_enter Try.func25, Try.ntmps25
    go_wp2_with fail
    refine wp_loop_rounds 1 ?_
    rw [rounds_succ]
    go_wp2_with fail
    refine (specTimelineValid_any _ _ B [] _ (RdE.nil) (by simp; omega) (by first | omega | simp)).mono ?_
    rintro e w1 ⟨rfl, hb1⟩
    have hbl1 := hemb.trans (hb1.mono (by simp))
    have hown1 := Own.below hemp hb1
    have hsz1 := hbl1.size
    go_wp2_with fail
    refine (specTimelineValid_any _ _ B ys w1 (h'.below (hbl1.mono hB)) (Nat.le_trans hB hsz1) hl').mono ?_
    rintro e w2 ⟨rfl, hb2⟩
    have hbl2 := hbl1.trans (hb2.mono hsz1)
    have hown2 := Own.below hown1 hb2
    go_wp2_with fail
    go_ret
    exact ⟨_, _, rfl, hown2, hbl2⟩
theorem specMergeTimelines_any (A A' : Option Addr) (cap cap' B : Nat) (xs ys : List ElPost) (w : World) (h : RdE 2 encPost w B A xs) (h' : RdE 2 encPost w B A' ys) (hB : B ≤ w.heap.size) (hl : xs.length ≤ 140737488351232) (hl' : ys.length ≤ 140737488351232) :
    Calls Try.prog 25 #[.slice A xs.length cap, .slice A' ys.length cap'] w fun e w' => ∃ T' c', e = .returned (.slice T' (mergeOf xs ys).length c') ∧ OwnE 2 encPost 33 w' w.heap.size T' c' (mergeOf xs ys) ∧ Below w.heap.size w w' := by
  by_cases hv : tvB xs = true ∧ tvB ys = true
  · exact specMergeTimelines_yes A A' cap cap' B xs ys w h h' hB hl hl' hv
  · exact specMergeTimelines_no A A' cap cap' B xs ys w h h' hB hl hl' hv
end Go.Proofs.Ythkdofflfaikgaa
