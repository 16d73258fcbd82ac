import Derived.Test.YthkdofflfaikgaaTimeG
namespace Go.Proofs.Ythkdofflfaikgaa
open Go.RowKit
/-- A slice value's length. -/
def sLen : Value → Nat
  | .slice _ n _ => n
  | _ => 0
theorem mg_fst {us vs : List ElPost} (hk : 0 < us.length) (h : vs.length ≤ 0 ∨ befB (gt us 0) (gt vs 0) = true) : mg us vs = gt us 0 :: mg (us.drop 1) vs := by
  have := mg_first (xs := us) (ys := vs) (k := 0) (j := 0) hk h
  simpa using this
theorem mg_snd {us vs : List ElPost} (hj : 0 < vs.length) (h : us.length ≤ 0 ∨ (befB (gt us 0) (gt vs 0) = false ∧ befB (gt vs 0) (gt us 0) = true)) : mg us vs = gt vs 0 :: mg us (vs.drop 1) := by
  have := mg_second (xs := us) (ys := vs) (k := 0) (j := 0) hj h
  simpa using this
theorem mg_bth {us vs : List ElPost} (hk : 0 < us.length) (hj : 0 < vs.length) (h1 : befB (gt us 0) (gt vs 0) = false) (h2 : befB (gt vs 0) (gt us 0) = false) : mg us vs = gt us 0 :: mg (us.drop 1) (vs.drop 1) := by
  have := mg_both (xs := us) (ys := vs) (k := 0) (j := 0) hk hj h1 h2
  simpa using this
theorem mergeOf_done {xs ys cur us vs : List ElPost} (h : tvB xs = true) (h' : tvB ys = true) (hc : mg xs ys = cur ++ mg us vs) (hl : cur.length ≤ 40) (he : (us.length = 0 ∧ vs.length = 0) ∨ 40 ≤ cur.length) : mergeOf xs ys = cur := by
  rw [mergeOf_yes h h', hc]
  rcases he with ⟨h1, h2⟩ | h1
  · rw [List.eq_nil_of_length_eq_zero h1, List.eq_nil_of_length_eq_zero h2, mg_nil_left, List.append_nil, List.take_of_length_le hl]
  · rw [List.take_append_of_le_length h1, List.take_of_length_le hl]
set_option maxRecDepth 100000 in
set_option maxHeartbeats 3200000 in
theorem implMergeTimelines_yes (A A' : Option Addr) (cap cap' B : Nat) (xs ys : List ElPost) (w : World) (h : RdE 2 encPost w B A xs) (h' : RdE 2 encPost w B A' ys) (hB : B ≤ w.heap.size) (hl : xs.length ≤ 140737488351232) (hl' : ys.length ≤ 140737488351232) (hS : Shp A xs.length cap) (hS' : Shp A' ys.length cap') (hv : tvB xs = true) (hv' : tvB ys = true) :
    Calls Try.prog 26 #[.slice A xs.length cap, .slice A' ys.length cap'] w fun e w' => ∃ T' c', e = .returned (.slice T' (mergeOf xs ys).length c') ∧ OwnE 2 encPost 33 w' w.heap.size T' c' (mergeOf xs ys) ∧ Below w.heap.size w w' := by
  have h40 := (Tv.of hv).1
  have h40' := (Tv.of hv').1
  go_enter Try.func26, Try.ntmps26
  go_wp2_with fail
  refine (implTimelineValid_any _ _ B xs w h hB hl).mono ?_
  rintro e w1 ⟨rfl, hb1⟩
  have hs1 := hb1.size
  go_wp2_with fail
  refine (implTimelineValid_any _ _ B ys w1 (h'.below (hb1.mono hB)) (Nat.le_trans hB hs1) hl').mono ?_
  rintro e w2 ⟨rfl, hb2⟩
  have hb2w := hb1.trans (hb2.mono hs1)
  have hb2B := hb2w.mono hB
  go_wp2_with fail
  go_loopw [0, 1, 5] (fun av bv v wr => ∃ (us vs cur : List ElPost) (Aa Ab T : Option Addr) (ca cb c : Nat), av = .slice Aa us.length ca ∧ bv = .slice Ab vs.length cb ∧ v = .slice T cur.length c ∧ cur.length ≤ 40 ∧ us.length ≤ 40 ∧ vs.length ≤ 40 ∧ Hid (mg xs ys = cur ++ mg us vs) ∧ RdE 2 encPost wr B Aa us ∧ RdE 2 encPost wr B Ab vs ∧ Shp Aa us.length ca ∧ Shp Ab vs.length cb ∧ OwnE 2 encPost 33 wr w.heap.size T c cur ∧ Below w.heap.size w wr) (fun av bv _ _ => sLen av + sLen bv)
  case atStart => exact ⟨xs, ys, [], _, _, none, _, _, 0, rfl, rfl, rfl, Nat.zero_le _, h40, h40', Lib.hid rfl, h.below hb2B, h'.below hb2B, hS, hS', Own.nil _ _ _ _ _, hb2w⟩
  case round =>
    clear hb1 hb2 hb2w hb2B hs1
    obtain ⟨us, vs, cur, Aa, Ab, T, ca, cb, c, rfl, rfl, rfl, hcl, hul, hvl, HM, hru, hrv, hSu, hSv, hown, hbl⟩ := hrel
    have hsz := hbl.size
    have hBz : B ≤ wr.heap.size := Nat.le_trans hB hsz
    by_cases hfull : cur.length < 40
    · have f1 : decide ((cur.length : Int) < 40) = true := decide_eq_true (by omega)
      by_cases hu : 0 < us.length
      ·
        have zus1 : ((us.length : Int) == 0) = false := beq_eq_false_iff_ne.2 (by omega)
        have zus2 : decide (0 < (us.length : Int)) = true := decide_eq_true (by omega)
        have zus3 : decide (0 < us.length) = true := decide_eq_true (by omega)
        obtain ⟨b, off, rfl, hb, hc⟩ := hru.at_ (by omega)
        have c0 : wr.cell? ⟨b, off, none⟩ = some (Value.int .i64 ((gt us 0).1)) := by have := hc 0 0 (by omega) (by omega); rw [show off + (0 * 2 + 0) = off by omega] at this; exact this
        have c1 : wr.cell? ⟨b, off + 1, none⟩ = some (Value.int .i64 ((gt us 0).2)) := by have := hc 0 1 (by omega) (by omega); rw [show off + (0 * 2 + 1) = off + 1 by omega] at this; exact this
        clear hc
        have slus : ∀ W, (Instr.slice 25 (.slice (some ⟨b, off, none⟩) us.length ca) (some (.int .i64 1)) none none).run Try.prog W = .ok (.slice (tlA (some ⟨b, off, none⟩) ca 1 2) (us.length - 1) (ca - 1)) W := fun W => run_from (k := 1) Try.underlying25 info_Post _ _ _ (by omega) W
        have tSus : Shp (tlA (some ⟨b, off, none⟩) ca 1 2) (us.drop 1).length (ca - 1) := by rw [List.length_drop]; exact Shp.tail hSu (by omega)
        by_cases hv2 : 0 < vs.length
        ·
          have zvs1 : ((vs.length : Int) == 0) = false := beq_eq_false_iff_ne.2 (by omega)
          have zvs2 : decide (0 < (vs.length : Int)) = true := decide_eq_true (by omega)
          have zvs3 : decide (0 < vs.length) = true := decide_eq_true (by omega)
          obtain ⟨b', off', rfl, hb', hd⟩ := hrv.at_ (by omega)
          have d0 : wr.cell? ⟨b', off', none⟩ = some (Value.int .i64 ((gt vs 0).1)) := by have := hd 0 0 (by omega) (by omega); rw [show off' + (0 * 2 + 0) = off' by omega] at this; exact this
          have d1 : wr.cell? ⟨b', off' + 1, none⟩ = some (Value.int .i64 ((gt vs 0).2)) := by have := hd 0 1 (by omega) (by omega); rw [show off' + (0 * 2 + 1) = off' + 1 by omega] at this; exact this
          clear hd
          have slvs : ∀ W, (Instr.slice 25 (.slice (some ⟨b', off', none⟩) vs.length cb) (some (.int .i64 1)) none none).run Try.prog W = .ok (.slice (tlA (some ⟨b', off', none⟩) cb 1 2) (vs.length - 1) (cb - 1)) W := fun W => run_from (k := 1) Try.underlying25 info_Post _ _ _ (by omega) W
          have tSvs : Shp (tlA (some ⟨b', off', none⟩) cb 1 2) (vs.drop 1).length (cb - 1) := by rw [List.length_drop]; exact Shp.tail hSv (by omega)
          have hbs : b < wr.heap.size := by omega
          have hbs' : b' < wr.heap.size := by omega
          have hru1 : RdE 2 encPost wr B (tlA (some ⟨b, off, none⟩) ca 1 2) (us.drop 1) := RdE.tail hru hSu 1 (by omega)
          have hrv1 : RdE 2 encPost wr B (tlA (some ⟨b', off', none⟩) cb 1 2) (vs.drop 1) := RdE.tail hrv hSv 1 (by omega)
          by_cases hbf : befB (gt us 0) (gt vs 0) = true
          · have q1 : befB ((gt us 0).1, (gt us 0).2) ((gt vs 0).1, (gt vs 0).2) = true := hbf
            have HS := Lib.hid (mg_fst (vs := vs) hu (.inr hbf))
            clear hbf
            go_wp2_with fail
            refine wp_region_still_tail 14 (by kernel_rfl) (by kernel_rfl) ?_
            simp only [List.take_succ_cons, List.take_zero, List.drop_succ_cons, List.drop_zero]
            repeat still_step
            refine wpStill_nil ?_
            go_wp2_with (first | (go_at_call 34; refine (postBefore_any _ _ _ _ _).mono ?_; rintro e w3 ⟨rfl, hqw3⟩; have hpw3 := (below_drew1 (B := wr.heap.size) wr).trans hqw3; have nc0w3 := (hpw3.cell (by assumption)).trans c0; have nc1w3 := (hpw3.cell (by assumption)).trans c1; have hown3 := Own.below hown hpw3; have hbl3 := hbl.trans (hpw3.mono hbl.size); have hsz3 := hbl3.size; have hBz3 : B ≤ w3.heap.size := Nat.le_trans hB hsz3; have hru1w3 := hru1.below (hpw3.mono (Nat.le_trans hB hbl.size)); have hrvw3 := hrv.below (hpw3.mono (Nat.le_trans hB hbl.size)); clear c0 c1 d0 d1 hown hbl) | (at_builtin; refine wpList_app rfl (.tmp 55) (.tmp 59) _ rfl w.heap.size 33 _ 2 16 Try.underlying25 info_Post rfl (by omega) T (some ⟨w3.heap.size, 0, none⟩) cur.length c 1 1 (w3.heap.size + 1) (cE 2 encPost cur) (encPost (gt us 0)) rfl rfl (Own.below hown3 ((Below.refl _ _).alloc (Nat.le_refl _) _)) (rd_elem _ _ _ _ (fun j hj => by rcases (by omega : j = 0 ∨ j = 1) with rfl | rfl <;> rfl)) (fun _ _ => encPost_one _ _) (by simp only [maxLen]; omega) (by omega) (by first | omega | (simp; done) | (simp; omega)) ?_; intro T1 cap1 w4 hown4 hg4; have hb4 : Below B w3 w4 := ((Below.refl _ _).alloc hBz3 _).trans (grown_below hg4 (fun b hb => by have := (Own.lt hown3 hb).1; omega) (by first | omega | (simp; done) | (simp; omega))); have hbl4 := hbl3.trans (((Below.refl _ _).alloc hsz3 _).trans (grown_below hg4 (fun b hb => (Own.lt hown3 hb).1) (by first | omega | (simp; done) | (simp; omega))))))
            go_roundw
            case rel => exact ⟨us.drop 1, vs, cur ++ [gt us 0], _, _, T1, _, _, cap1, by rw [List.length_drop], rfl, by rw [List.length_append]; rfl, by rw [List.length_append]; simp; omega, by first | omega | (simp; omega), by first | omega | (simp; omega), Lib.hid (by rw [HM.out, HS.out, List.append_assoc]; rfl), hru1w3.below hb4, hrvw3.below hb4, tSus, hSv, OwnE.snoc (by omega) hown4, hbl4⟩
            case measure => simp [sLen]; omega
          · have q1 : befB ((gt us 0).1, (gt us 0).2) ((gt vs 0).1, (gt vs 0).2) = false := by simpa using hbf
            have hbf' : befB (gt us 0) (gt vs 0) = false := by simpa using hbf
            clear hbf
            by_cases hbg : befB (gt vs 0) (gt us 0) = true
            · have q2 : befB ((gt vs 0).1, (gt vs 0).2) ((gt us 0).1, (gt us 0).2) = true := hbg
              have HS := Lib.hid (mg_snd (us := us) hv2 (.inr ⟨hbf', hbg⟩))
              clear hbg hbf'
              go_wp2_with fail
              refine wp_region_still_tail 14 (by kernel_rfl) (by kernel_rfl) ?_
              simp only [List.take_succ_cons, List.take_zero, List.drop_succ_cons, List.drop_zero]
              repeat still_step
              refine wpStill_nil ?_
              go_wp2_with (go_at_call 34; refine (postBefore_any _ _ _ _ _).mono ?_; rintro e w5 ⟨rfl, hqw5⟩; have hpw5 := (below_drew1 (B := wr.heap.size) wr).trans hqw5; have nc0w5 := (hpw5.cell (by assumption)).trans c0; have nc1w5 := (hpw5.cell (by assumption)).trans c1; have nd0w5 := (hpw5.cell (by assumption)).trans d0; have nd1w5 := (hpw5.cell (by assumption)).trans d1; have hown5 := Own.below hown hpw5; have hbl5 := hbl.trans (hpw5.mono hbl.size); have hsz5 := hbl5.size; have hBz5 : B ≤ w5.heap.size := Nat.le_trans hB hsz5; have hru1w5 := hru1.below (hpw5.mono (Nat.le_trans hB hbl.size)); have hrv1w5 := hrv1.below (hpw5.mono (Nat.le_trans hB hbl.size)); have hruw5 := hru.below (hpw5.mono (Nat.le_trans hB hbl.size)); have hrvw5 := hrv.below (hpw5.mono (Nat.le_trans hB hbl.size)))
              have hbt : b < w5.heap.size := by omega
              have hbt' : b' < w5.heap.size := by omega
              clear c0 c1 d0 d1 hown hbl
              go_wp2_with fail
              refine wp_region_still_tail 10 (by kernel_rfl) (by kernel_rfl) ?_
              simp only [List.take_succ_cons, List.take_zero, List.drop_succ_cons, List.drop_zero]
              repeat still_step
              refine wpStill_nil ?_
              go_wp2_with (first | (go_at_call 34; refine (postBefore_any _ _ _ _ _).mono ?_; rintro e w3 ⟨rfl, hqw3⟩; have hpw3 := (below_drew1 (B := w5.heap.size) w5).trans hqw3; have nnc0w5w3 := (hpw3.cell (by assumption)).trans nc0w5; have nnc1w5w3 := (hpw3.cell (by assumption)).trans nc1w5; have nnd0w5w3 := (hpw3.cell (by assumption)).trans nd0w5; have nnd1w5w3 := (hpw3.cell (by assumption)).trans nd1w5; have hown3 := Own.below hown5 hpw3; have hbl3 := hbl5.trans (hpw3.mono hbl5.size); have hsz3 := hbl3.size; have hBz3 : B ≤ w3.heap.size := Nat.le_trans hB hsz3; have hru1w5w3 := hru1w5.below (hpw3.mono (Nat.le_trans hB hbl5.size)); have hrv1w5w3 := hrv1w5.below (hpw3.mono (Nat.le_trans hB hbl5.size)); have hruw5w3 := hruw5.below (hpw3.mono (Nat.le_trans hB hbl5.size)); have hrvw5w3 := hrvw5.below (hpw3.mono (Nat.le_trans hB hbl5.size)); clear nc0w5 nc1w5 nd0w5 nd1w5 hown5 hbl5) | (at_builtin; refine wpList_app rfl (.tmp 76) (.tmp 80) _ rfl w.heap.size 33 _ 2 16 Try.underlying25 info_Post rfl (by omega) T (some ⟨w3.heap.size, 0, none⟩) cur.length c 1 1 (w3.heap.size + 1) (cE 2 encPost cur) (encPost (gt vs 0)) rfl rfl (Own.below hown3 ((Below.refl _ _).alloc (Nat.le_refl _) _)) (rd_elem _ _ _ _ (fun j hj => by rcases (by omega : j = 0 ∨ j = 1) with rfl | rfl <;> rfl)) (fun _ _ => encPost_one _ _) (by simp only [maxLen]; omega) (by omega) (by first | omega | (simp; done) | (simp; omega)) ?_; intro T1 cap1 w4 hown4 hg4; have hb4 : Below B w3 w4 := ((Below.refl _ _).alloc hBz3 _).trans (grown_below hg4 (fun b hb => by have := (Own.lt hown3 hb).1; omega) (by first | omega | (simp; done) | (simp; omega))); have hbl4 := hbl3.trans (((Below.refl _ _).alloc hsz3 _).trans (grown_below hg4 (fun b hb => (Own.lt hown3 hb).1) (by first | omega | (simp; done) | (simp; omega))))))
              go_roundw
              case rel => exact ⟨us, vs.drop 1, cur ++ [gt vs 0], _, _, T1, _, _, cap1, rfl, by rw [List.length_drop], by rw [List.length_append]; rfl, by rw [List.length_append]; simp; omega, by first | omega | (simp; omega), by first | omega | (simp; omega), Lib.hid (by rw [HM.out, HS.out, List.append_assoc]; rfl), hruw5w3.below hb4, hrv1w5w3.below hb4, hSu, tSvs, OwnE.snoc (by omega) hown4, hbl4⟩
              case measure => simp [sLen]; omega
            · have q2 : befB ((gt vs 0).1, (gt vs 0).2) ((gt us 0).1, (gt us 0).2) = false := by simpa using hbg
              have HS := Lib.hid (mg_bth hu hv2 hbf' (by simpa using hbg))
              clear hbg hbf'
              go_wp2_with fail
              refine wp_region_still_tail 14 (by kernel_rfl) (by kernel_rfl) ?_
              simp only [List.take_succ_cons, List.take_zero, List.drop_succ_cons, List.drop_zero]
              repeat still_step
              refine wpStill_nil ?_
              go_wp2_with (go_at_call 34; refine (postBefore_any _ _ _ _ _).mono ?_; rintro e w5 ⟨rfl, hqw5⟩; have hpw5 := (below_drew1 (B := wr.heap.size) wr).trans hqw5; have nc0w5 := (hpw5.cell (by assumption)).trans c0; have nc1w5 := (hpw5.cell (by assumption)).trans c1; have nd0w5 := (hpw5.cell (by assumption)).trans d0; have nd1w5 := (hpw5.cell (by assumption)).trans d1; have hown5 := Own.below hown hpw5; have hbl5 := hbl.trans (hpw5.mono hbl.size); have hsz5 := hbl5.size; have hBz5 : B ≤ w5.heap.size := Nat.le_trans hB hsz5; have hru1w5 := hru1.below (hpw5.mono (Nat.le_trans hB hbl.size)); have hrv1w5 := hrv1.below (hpw5.mono (Nat.le_trans hB hbl.size)); have hruw5 := hru.below (hpw5.mono (Nat.le_trans hB hbl.size)); have hrvw5 := hrv.below (hpw5.mono (Nat.le_trans hB hbl.size)))
              have hbt : b < w5.heap.size := by omega
              have hbt' : b' < w5.heap.size := by omega
              clear c0 c1 d0 d1 hown hbl
              go_wp2_with fail
              refine wp_region_still_tail 10 (by kernel_rfl) (by kernel_rfl) ?_
              simp only [List.take_succ_cons, List.take_zero, List.drop_succ_cons, List.drop_zero]
              repeat still_step
              refine wpStill_nil ?_
              go_wp2_with (first | (go_at_call 34; refine (postBefore_any _ _ _ _ _).mono ?_; rintro e w3 ⟨rfl, hqw3⟩; have hpw3 := (below_drew1 (B := w5.heap.size) w5).trans hqw3; have nnc0w5w3 := (hpw3.cell (by assumption)).trans nc0w5; have nnc1w5w3 := (hpw3.cell (by assumption)).trans nc1w5; have nnd0w5w3 := (hpw3.cell (by assumption)).trans nd0w5; have nnd1w5w3 := (hpw3.cell (by assumption)).trans nd1w5; have hown3 := Own.below hown5 hpw3; have hbl3 := hbl5.trans (hpw3.mono hbl5.size); have hsz3 := hbl3.size; have hBz3 : B ≤ w3.heap.size := Nat.le_trans hB hsz3; have hru1w5w3 := hru1w5.below (hpw3.mono (Nat.le_trans hB hbl5.size)); have hrv1w5w3 := hrv1w5.below (hpw3.mono (Nat.le_trans hB hbl5.size)); have hruw5w3 := hruw5.below (hpw3.mono (Nat.le_trans hB hbl5.size)); have hrvw5w3 := hrvw5.below (hpw3.mono (Nat.le_trans hB hbl5.size)); clear nc0w5 nc1w5 nd0w5 nd1w5 hown5 hbl5) | (at_builtin; refine wpList_app rfl (.tmp 27) (.tmp 31) _ rfl w.heap.size 33 _ 2 16 Try.underlying25 info_Post rfl (by omega) T (some ⟨w3.heap.size, 0, none⟩) cur.length c 1 1 (w3.heap.size + 1) (cE 2 encPost cur) (encPost (gt us 0)) rfl rfl (Own.below hown3 ((Below.refl _ _).alloc (Nat.le_refl _) _)) (rd_elem _ _ _ _ (fun j hj => by rcases (by omega : j = 0 ∨ j = 1) with rfl | rfl <;> rfl)) (fun _ _ => encPost_one _ _) (by simp only [maxLen]; omega) (by omega) (by first | omega | (simp; done) | (simp; omega)) ?_; intro T1 cap1 w4 hown4 hg4; have hb4 : Below B w3 w4 := ((Below.refl _ _).alloc hBz3 _).trans (grown_below hg4 (fun b hb => by have := (Own.lt hown3 hb).1; omega) (by first | omega | (simp; done) | (simp; omega))); have hbl4 := hbl3.trans (((Below.refl _ _).alloc hsz3 _).trans (grown_below hg4 (fun b hb => (Own.lt hown3 hb).1) (by first | omega | (simp; done) | (simp; omega))))))
              go_quiet (fail)
              go_wp2_with fail
              have hb4d := below_drewN hb4 nq
              have hown4d := Own.drewN hown4 nq
              have hbl4d := below_drewN hbl4 nq
              go_roundw
              case rel => exact ⟨us.drop 1, vs.drop 1, cur ++ [gt us 0], _, _, T1, _, _, cap1, by rw [List.length_drop], by rw [List.length_drop], by rw [List.length_append]; rfl, by rw [List.length_append]; simp; omega, by first | omega | (simp; omega), by first | omega | (simp; omega), Lib.hid (by rw [HM.out, HS.out, List.append_assoc]; rfl), hru1w5w3.below hb4d, hrv1w5w3.below hb4d, tSus, tSvs, OwnE.snoc (by omega) hown4d, hbl4d⟩
              case measure => simp [sLen]; omega
        · have v0 : vs = [] := List.eq_nil_of_length_eq_zero (by omega)
          have zvs1 : ((vs.length : Int) == 0) = true := beq_iff_eq.2 (by omega)
          have HS := Lib.hid (mg_fst (vs := vs) hu (.inl (by omega)))
          clear v0
          have hru1 : RdE 2 encPost wr B (tlA (some ⟨b, off, none⟩) ca 1 2) (us.drop 1) := RdE.tail hru hSu 1 (by omega)
          go_wp2_with fail
          go_quiet (fail)
          have hown3 := Own.drewN hown nq
          have hbl3 := below_drewN hbl nq
          have hsz3 : w.heap.size ≤ (wr.drewN nq).heap.size := hsz
          have hBz3 : B ≤ (wr.drewN nq).heap.size := hBz
          replace c0 : (wr.drewN nq).cell? ⟨b, off, none⟩ = some (Value.int .i64 ((gt us 0).1)) := c0
          replace c1 : (wr.drewN nq).cell? ⟨b, off + 1, none⟩ = some (Value.int .i64 ((gt us 0).2)) := c1
          replace hru1 : RdE 2 encPost (wr.drewN nq) B (tlA (some ⟨b, off, none⟩) ca 1 2) (us.drop 1) := hru1
          replace hrv : RdE 2 encPost (wr.drewN nq) B Ab vs := hrv
          clear hown hbl hru
          generalize wr.drewN nq = w3 at *
          go_wp2_with (at_builtin; refine wpList_app rfl (.tmp 55) (.tmp 59) _ rfl w.heap.size 33 _ 2 16 Try.underlying25 info_Post rfl (by omega) T (some ⟨w3.heap.size, 0, none⟩) cur.length c 1 1 (w3.heap.size + 1) (cE 2 encPost cur) (encPost (gt us 0)) rfl rfl (Own.below hown3 ((Below.refl _ _).alloc (Nat.le_refl _) _)) (rd_elem _ _ _ _ (fun j hj => by rcases (by omega : j = 0 ∨ j = 1) with rfl | rfl <;> rfl)) (fun _ _ => encPost_one _ _) (by simp only [maxLen]; omega) (by omega) (by first | omega | (simp; done) | (simp; omega)) ?_; intro T1 cap1 w4 hown4 hg4; have hb4 : Below B w3 w4 := ((Below.refl _ _).alloc hBz3 _).trans (grown_below hg4 (fun b hb => by have := (Own.lt hown3 hb).1; omega) (by first | omega | (simp; done) | (simp; omega))); have hbl4 := hbl3.trans (((Below.refl _ _).alloc hsz3 _).trans (grown_below hg4 (fun b hb => (Own.lt hown3 hb).1) (by first | omega | (simp; done) | (simp; omega)))))
          go_roundw
          case rel => exact ⟨us.drop 1, vs, cur ++ [gt us 0], _, _, T1, _, _, cap1, by rw [List.length_drop], rfl, by rw [List.length_append]; rfl, by rw [List.length_append]; simp; omega, by first | omega | (simp; omega), by first | omega | (simp; omega), Lib.hid (by rw [HM.out, HS.out, List.append_assoc]; rfl), hru1.below hb4, hrv.below hb4, tSus, hSv, OwnE.snoc (by omega) hown4, hbl4⟩
          case measure => simp [sLen]; omega
      · have zus1 : ((us.length : Int) == 0) = true := beq_iff_eq.2 (by omega)
        have zus2 : decide (0 < (us.length : Int)) = false := decide_eq_false (by omega)
        have zus3 : decide (0 < us.length) = false := decide_eq_false (by omega)
        by_cases hv2 : 0 < vs.length
        ·
          have zvs1 : ((vs.length : Int) == 0) = false := beq_eq_false_iff_ne.2 (by omega)
          have zvs2 : decide (0 < (vs.length : Int)) = true := decide_eq_true (by omega)
          have zvs3 : decide (0 < vs.length) = true := decide_eq_true (by omega)
          obtain ⟨b', off', rfl, hb', hd⟩ := hrv.at_ (by omega)
          have d0 : wr.cell? ⟨b', off', none⟩ = some (Value.int .i64 ((gt vs 0).1)) := by have := hd 0 0 (by omega) (by omega); rw [show off' + (0 * 2 + 0) = off' by omega] at this; exact this
          have d1 : wr.cell? ⟨b', off' + 1, none⟩ = some (Value.int .i64 ((gt vs 0).2)) := by have := hd 0 1 (by omega) (by omega); rw [show off' + (0 * 2 + 1) = off' + 1 by omega] at this; exact this
          clear hd
          have slvs : ∀ W, (Instr.slice 25 (.slice (some ⟨b', off', none⟩) vs.length cb) (some (.int .i64 1)) none none).run Try.prog W = .ok (.slice (tlA (some ⟨b', off', none⟩) cb 1 2) (vs.length - 1) (cb - 1)) W := fun W => run_from (k := 1) Try.underlying25 info_Post _ _ _ (by omega) W
          have tSvs : Shp (tlA (some ⟨b', off', none⟩) cb 1 2) (vs.drop 1).length (cb - 1) := by rw [List.length_drop]; exact Shp.tail hSv (by omega)
          have HS := Lib.hid (mg_snd (us := us) hv2 (.inl (by omega)))
          have hrv1 : RdE 2 encPost wr B (tlA (some ⟨b', off', none⟩) cb 1 2) (vs.drop 1) := RdE.tail hrv hSv 1 (by omega)
          go_wp2_with fail
          go_quiet (fail)
          have hown3 := Own.drewN hown nq
          have hbl3 := below_drewN hbl nq
          have hsz3 : w.heap.size ≤ (wr.drewN nq).heap.size := hsz
          have hBz3 : B ≤ (wr.drewN nq).heap.size := hBz
          replace d0 : (wr.drewN nq).cell? ⟨b', off', none⟩ = some (Value.int .i64 ((gt vs 0).1)) := d0
          replace d1 : (wr.drewN nq).cell? ⟨b', off' + 1, none⟩ = some (Value.int .i64 ((gt vs 0).2)) := d1
          replace hrv1 : RdE 2 encPost (wr.drewN nq) B (tlA (some ⟨b', off', none⟩) cb 1 2) (vs.drop 1) := hrv1
          replace hru : RdE 2 encPost (wr.drewN nq) B Aa us := hru
          clear hown hbl hrv
          generalize wr.drewN nq = w5 at *
          go_wp2_with fail
          go_quiet (fail)
          replace d0 : (w5.drewN nq).cell? ⟨b', off', none⟩ = some (Value.int .i64 ((gt vs 0).1)) := d0
          replace d1 : (w5.drewN nq).cell? ⟨b', off' + 1, none⟩ = some (Value.int .i64 ((gt vs 0).2)) := d1
          replace hrv1 : RdE 2 encPost (w5.drewN nq) B (tlA (some ⟨b', off', none⟩) cb 1 2) (vs.drop 1) := hrv1
          replace hru : RdE 2 encPost (w5.drewN nq) B Aa us := hru
          replace hown3 := Own.drewN hown3 nq
          replace hbl3 := below_drewN hbl3 nq
          replace hsz3 : w.heap.size ≤ (w5.drewN nq).heap.size := hsz3
          replace hBz3 : B ≤ (w5.drewN nq).heap.size := hBz3
          generalize w5.drewN nq = w3 at *
          go_wp2_with (at_builtin; refine wpList_app rfl (.tmp 76) (.tmp 80) _ rfl w.heap.size 33 _ 2 16 Try.underlying25 info_Post rfl (by omega) T (some ⟨w3.heap.size, 0, none⟩) cur.length c 1 1 (w3.heap.size + 1) (cE 2 encPost cur) (encPost (gt vs 0)) rfl rfl (Own.below hown3 ((Below.refl _ _).alloc (Nat.le_refl _) _)) (rd_elem _ _ _ _ (fun j hj => by rcases (by omega : j = 0 ∨ j = 1) with rfl | rfl <;> rfl)) (fun _ _ => encPost_one _ _) (by simp only [maxLen]; omega) (by omega) (by first | omega | (simp; done) | (simp; omega)) ?_; intro T1 cap1 w4 hown4 hg4; have hb4 : Below B w3 w4 := ((Below.refl _ _).alloc hBz3 _).trans (grown_below hg4 (fun b hb => by have := (Own.lt hown3 hb).1; omega) (by first | omega | (simp; done) | (simp; omega))); have hbl4 := hbl3.trans (((Below.refl _ _).alloc hsz3 _).trans (grown_below hg4 (fun b hb => (Own.lt hown3 hb).1) (by first | omega | (simp; done) | (simp; omega)))))
          go_roundw
          case rel => exact ⟨us, vs.drop 1, cur ++ [gt vs 0], _, _, T1, _, _, cap1, rfl, by rw [List.length_drop], by rw [List.length_append]; rfl, by rw [List.length_append]; simp; omega, by first | omega | (simp; omega), by first | omega | (simp; omega), Lib.hid (by rw [HM.out, HS.out, List.append_assoc]; rfl), hru.below hb4, hrv1.below hb4, hSu, tSvs, OwnE.snoc (by omega) hown4, hbl4⟩
          case measure => simp [sLen]; omega
        ·
          have zvs2 : decide (0 < (vs.length : Int)) = false := decide_eq_false (by omega)
          have zvs3 : decide (0 < vs.length) = false := decide_eq_false (by omega)
          have HE := Lib.hid (mergeOf_done hv hv' HM.out hcl (.inl ⟨by omega, by omega⟩))
          go_wp2_with fail
          go_ret
          rw [HE.out]
          exact ⟨_, _, rfl, hown, hbl⟩
    · have f1 : decide ((cur.length : Int) < 40) = false := decide_eq_false (by omega)
      have HE := Lib.hid (mergeOf_done hv hv' HM.out hcl (.inr (by omega)))
      go_wp2_with fail
      go_ret
      rw [HE.out]
      exact ⟨_, _, rfl, hown, hbl⟩
theorem implMergeTimelines_any (A A' : Option Addr) (cap cap' B : Nat) (xs ys : List ElPost) (w : World) (h : RdE 2 encPost w B A xs) (h' : RdE 2 encPost w B A' ys) (hB : B ≤ w.heap.size) (hl : xs.length ≤ 140737488351232) (hl' : ys.length ≤ 140737488351232) (hS : Shp A xs.length cap) (hS' : Shp A' ys.length cap') :
    Calls Try.prog 26 #[.slice A xs.length cap, .slice A' ys.length cap'] w fun e w' => ∃ T' c', e = .returned (.slice T' (mergeOf xs ys).length c') ∧ OwnE 2 encPost 33 w' w.heap.size T' c' (mergeOf xs ys) ∧ Below w.heap.size w w' := by
  by_cases hv : tvB xs = true
  · by_cases hv' : tvB ys = true
    · exact implMergeTimelines_yes A A' cap cap' B xs ys w h h' hB hl hl' hS hS' hv hv'
    · have hn : tvB ys = false := by simpa using hv'
      rw [mergeOf_no (fun k => hv' k.2)]
      clear hv'
      go_enter Try.func26, Try.ntmps26
      go_wp2_with fail
      refine (implTimelineValid_any _ _ B xs w h hB hl).mono ?_
      rintro e w1 ⟨rfl, hb1⟩
      go_wp2_with fail
      refine (implTimelineValid_any _ _ B ys w1 (h'.below (hb1.mono hB)) (Nat.le_trans hB hb1.size) hl').mono ?_
      rintro e w2 ⟨rfl, hb2⟩
      go_wp2_with fail
      go_ret
      exact ⟨none, 0, rfl, Own.nil _ _ _ _ _, hb1.trans (hb2.mono hb1.size)⟩
  · have hn : tvB xs = false := by simpa using hv
    rw [mergeOf_no (fun k => hv k.1)]
    clear hv
    go_enter Try.func26, Try.ntmps26
    go_wp2_with fail
    refine (implTimelineValid_any _ _ B xs w h hB hl).mono ?_
    rintro e w1 ⟨rfl, hb1⟩
    go_wp2_with fail
    go_ret
    exact ⟨none, 0, rfl, Own.nil _ _ _ _ _, hb1⟩
end Go.Proofs.Ythkdofflfaikgaa
