import Derived.Test.YtnplpllhochlfaaTombPlain
import Derived.Test.YtnplpllhochlfaaSpecWord
import Derived.Test.YtnplpllhochlfaaTail
namespace Go.Proofs.Ytnplpllhochlfaa
open Go.RowKit
set_option maxHeartbeats 400000 in
theorem tombOf_any (A : Option Addr) (cap B : Nat) (rs : List ElTomb) (key : ByteArray) (w : World) (h : RdE 2 encTomb w B A rs) (hB : B ≤ w.heap.size) (hl : rs.length ≤ 140737488351232) :
    Calls Try.prog 33 #[.slice A rs.length cap, .string key] w fun e w' => e = .returned (.int .i64 (tombIx rs key)) ∧ Below w.heap.size w w' := by
  go_enter Try.func33, Try.ntmps33
  go_wp2_with fail
  go_loopw [9] (fun i wr => ∃ k : Nat, k ≤ rs.length ∧ Hid (∀ j, j < k → isT key (gt rs j) = false) ∧ i = .int .i64 k ∧ Below w.heap.size w wr) (fun i _ => rs.length - (intOf i).toNat)
  case atStart => exact ⟨0, Nat.zero_le _, Lib.hid (fun j hj => absurd hj (by omega)), rfl, Below.refl _ _⟩
  case round =>
    obtain ⟨k, hk, hno, rfl, hbl⟩ := hrel
    by_cases hlt : k < rs.length
    · obtain ⟨b, off, rfl, hb, hc⟩ := (h.below (hbl.mono hB)).at_ (by omega)
      have e0 : (wr.alloc (.cells #[.string ((gt rs k).1), .int .i64 ((gt rs k).2)] 54)).cell? ⟨wr.heap.size, 0, none⟩ = some (Value.string ((gt rs k).1)) := by rw [World.cell?_alloc_at _ _ _ _ rfl]; rfl
      have e1 : (wr.alloc (.cells #[.string ((gt rs k).1), .int .i64 ((gt rs k).2)] 54)).cell? ⟨wr.heap.size, 1, none⟩ = some (Value.int .i64 ((gt rs k).2)) := by rw [World.cell?_alloc_at _ _ _ _ rfl]; rfl
      have c0 : wr.cell? ⟨b, off + k * 2, none⟩ = some (Value.string ((gt rs k).1)) := hc k 0 (by omega) (by omega)
      have c1 : wr.cell? ⟨b, off + k * 2 + 1, none⟩ = some (Value.int .i64 ((gt rs k).2)) := hc k 1 (by omega) (by omega)
      clear hc
      by_cases hq : isT key (gt rs k) = true
      · have q0 : ((gt rs k).1.toList == key.toList) = true := by rw [seq_eql]; exact hq
        have HQ := Lib.hid (ix_at hlt hno.out hq)
        clear hq
        go_wp2_with fail
        go_ret
        exact ⟨ret_int HQ.out.symm, hbl.alloc hbl.size _⟩
      · have hq' : isT key (gt rs k) = false := by simpa using hq
        have q0 : ((gt rs k).1.toList == key.toList) = false := by rw [seq_eql]; exact hq'
        clear hq
        go_wp2_with fail
        go_roundw
        case rel => exact ⟨k + 1, by omega, Lib.hid (fun j hj => by
          rcases Nat.lt_succ_iff_lt_or_eq.1 hj with h1 | rfl
          · exact hno.out j h1
          · exact hq'), by go_num, hbl.alloc hbl.size _⟩
        case measure => simp [intOf]; omega
    · obtain rfl : k = rs.length := by omega
      go_wp2_with fail
      go_ret
      exact ⟨ret_int (ix_none hno.out).symm, hbl⟩
set_option maxHeartbeats 1600000 in
theorem specTombsValid_any (A : Option Addr) (cap B : Nat) (rs : List ElTomb) (w : World) (h : RdE 2 encTomb w B A rs) (hB : B ≤ w.heap.size) (hl : rs.length ≤ 140737488351232) (hsz : ∀ k, k < rs.length → (gt rs k).1.size ≤ maxLen) :
    Calls Try.prog 27 #[.slice A rs.length cap] w fun e w' => e = .returned (.bool (tmB rs)) ∧ Below w.heap.size w w' := by
  have HD := Lib.hid hsz
  clear hsz
  go_enter Try.func27, Try.ntmps27
  go_wp2_with fail
  go_loopw [3] (fun i wr => ∃ k : Nat, k ≤ rs.length ∧ Hid (upTo OkT rs k) ∧ i = .int .i64 k ∧ Below w.heap.size w wr) (fun i _ => rs.length - (intOf i).toNat)
  case atStart => exact ⟨0, Nat.zero_le _, Lib.hid upTo_zero, rfl, Below.refl _ _⟩
  case round =>
    obtain ⟨k, hk, hok, rfl, hbl⟩ := hrel
    by_cases hlt : k < rs.length
    · have hz := HD.out k hlt
      obtain ⟨b, off, rfl, hb, hc⟩ := (h.below (hbl.mono hB)).at_ (by omega)
      have c0 : wr.cell? ⟨b, off + k * 2, none⟩ = some (Value.string ((gt rs k).1)) := hc k 0 (by omega) (by omega)
      have c1 : wr.cell? ⟨b, off + k * 2 + 1, none⟩ = some (Value.int .i64 ((gt rs k).2)) := hc k 1 (by omega) (by omega)
      have HC := Lib.hid hc
      clear hc
      by_cases ha : wordB (gt rs k).1 = true
      · by_cases hb2 : inB (gt rs k).2 0 1000000000 = true
        · by_cases h0 : k = 0
          · have hk0 : decide (0 < (k : Int)) = false := by simp; omega
            have hk00 : decide (0 < k) = false := by simp; omega
            have hord : 0 < k → (gt rs (k - 1)).2 ≤ (gt rs k).2 := fun h => absurd h (by omega)
            have HORD := Lib.hid hord
            clear hord h0
            go_wp2_with fail
            go_quiet (first | ((go_at_call 46; exact quiet_of (specWordValid_any _ _ hz))) | ((go_at_call 47; exact quiet_of (l1In_any _ _ _ _))))
            go_wp2_with fail
            have hblo := (below_drewN hbl nq)
            have HCo : Hid (∀ (k i : Nat), k < rs.length → i < 2 → (wr.drewN nq).cell? ⟨b, off + (k * 2 + i), none⟩ = some (encTomb (gt rs k) i)) := HC
            generalize (wr.drewN nq) = wo at *
            clear HC hbl
            go_loopw [4] (fun i wr => ∃ j : Nat, j ≤ k ∧ Hid (∀ q, q < j → (gt rs q).1 ≠ (gt rs k).1) ∧ i = .int .i64 j ∧ Below wo.heap.size wo wr) (fun i _ => k - (intOf i).toNat)
            case atStart => exact ⟨0, Nat.zero_le _, Lib.hid (fun j hj => absurd hj (by omega)), rfl, Below.refl _ _⟩
            case round =>
              obtain ⟨j, hj, hdj, rfl, hbi⟩ := hrel
              have hbw := hblo.trans (hbi.mono hblo.size)
              have hbsz : b < wo.heap.size := by have := hblo.size; omega
              by_cases hjk : j < k
              · have d0 : wr.cell? ⟨b, off + j * 2, none⟩ = some (Value.string ((gt rs j).1)) := (hbi.cell (by exact hbsz)).trans (HCo.out j 0 (by omega) (by omega))
                have d1 : wr.cell? ⟨b, off + k * 2, none⟩ = some (Value.string ((gt rs k).1)) := (hbi.cell (by exact hbsz)).trans (HCo.out k 0 (by omega) (by omega))
                have hjl : j < rs.length := by omega
                by_cases hq : (gt rs j).1 = (gt rs k).1
                · have q0 : ((gt rs j).1.toList == (gt rs k).1.toList) = true := by rw [seq_eql]; exact seq_true.2 hq
                  have HQ := Lib.hid (vdB_bad (Ok := OkT) (mx := 8) hlt (fun hk => hk.2.2.2 j hjk hq))
                  clear hq
                  go_wp2_with fail
                  go_quiet (fail)
                  go_wp2_with fail
                  go_ret
                  exact ⟨ret_bool HQ.out.symm, below_drewN hbw _⟩
                · have q0 : ((gt rs j).1.toList == (gt rs k).1.toList) = false := by rw [seq_eql]; exact seq_false.2 hq
                  have HJ : Hid (∀ q, q < j + 1 → (gt rs q).1 ≠ (gt rs k).1) := Lib.hid (fun q hq1 => by
                    rcases Nat.lt_succ_iff_lt_or_eq.1 hq1 with h1 | rfl
                    · exact hdj.out q h1
                    · exact hq)
                  clear hq
                  go_wp2_with fail
                  go_quiet (fail)
                  go_wp2_with fail
                  go_roundw
                  case rel => exact ⟨j + 1, by omega, HJ, by go_num, below_drewN hbi _⟩
                  case measure => simp [intOf]; omega
              · obtain rfl : j = k := by omega
                have HN := Lib.hid (upTo_succ hok.out ⟨ha, hb2, HORD.out, hdj.out⟩)
                go_wp2_with fail
                go_roundw
                case rel => exact ⟨j + 1, by omega, HN, by go_num, hbw⟩
                case measure => simp [intOf]; omega
          · have hk0 : decide (0 < (k : Int)) = true := by simp; omega
            have hk00 : decide (0 < k) = true := by simp; omega
            have p1 : wr.cell? ⟨b, off + (k - 1) * 2 + 1, none⟩ = some (Value.int .i64 ((gt rs (k - 1)).2)) := HC.out (k - 1) 1 (by omega) (by omega)
            have hk1 : ((k : Int) - 1).toNat = k - 1 := by omega
            have hk2 : IntKind.i64.wrap ((k : Int) - 1) = (k : Int) - 1 := IntWalk.i64_in _ (by omega)
            have hk3 : (1 : Int) ≤ (k : Int) := by omega
            have hk4 : (0 : Int) ≤ (k : Int) - 1 := by omega
            have hk5 : (k : Int) - 1 < (rs.length : Int) := by omega
            by_cases hw : (gt rs k).2 < (gt rs (k - 1)).2
            · have hwd : decide ((gt rs k).2 < (gt rs (k - 1)).2) = true := by simp [hw]
              have HQ := Lib.hid (vdB_bad (Ok := OkT) (mx := 8) hlt (fun hk => absurd (hk.2.2.1 (by omega)) (by omega)))
              go_wp2_with fail
              go_quiet (first | ((go_at_call 46; exact quiet_of (specWordValid_any _ _ hz))) | ((go_at_call 47; exact quiet_of (l1In_any _ _ _ _))))
              go_wp2_with fail
              go_ret
              exact ⟨ret_bool HQ.out.symm, below_drewN hbl _⟩
            · have hwd : decide ((gt rs k).2 < (gt rs (k - 1)).2) = false := by simp; omega
              have HORD : Hid (0 < k → (gt rs (k - 1)).2 ≤ (gt rs k).2) := Lib.hid (fun _ => by omega)
              go_wp2_with fail
              go_quiet (first | ((go_at_call 46; exact quiet_of (specWordValid_any _ _ hz))) | ((go_at_call 47; exact quiet_of (l1In_any _ _ _ _))))
              go_wp2_with fail
              have hblo := (below_drewN hbl nq)
              have HCo : Hid (∀ (k i : Nat), k < rs.length → i < 2 → (wr.drewN nq).cell? ⟨b, off + (k * 2 + i), none⟩ = some (encTomb (gt rs k) i)) := HC
              generalize (wr.drewN nq) = wo at *
              clear HC hbl
              go_loopw [4] (fun i wr => ∃ j : Nat, j ≤ k ∧ Hid (∀ q, q < j → (gt rs q).1 ≠ (gt rs k).1) ∧ i = .int .i64 j ∧ Below wo.heap.size wo wr) (fun i _ => k - (intOf i).toNat)
              case atStart => exact ⟨0, Nat.zero_le _, Lib.hid (fun j hj => absurd hj (by omega)), rfl, Below.refl _ _⟩
              case round =>
                obtain ⟨j, hj, hdj, rfl, hbi⟩ := hrel
                have hbw := hblo.trans (hbi.mono hblo.size)
                have hbsz : b < wo.heap.size := by have := hblo.size; omega
                by_cases hjk : j < k
                · have d0 : wr.cell? ⟨b, off + j * 2, none⟩ = some (Value.string ((gt rs j).1)) := (hbi.cell (by exact hbsz)).trans (HCo.out j 0 (by omega) (by omega))
                  have d1 : wr.cell? ⟨b, off + k * 2, none⟩ = some (Value.string ((gt rs k).1)) := (hbi.cell (by exact hbsz)).trans (HCo.out k 0 (by omega) (by omega))
                  have hjl : j < rs.length := by omega
                  by_cases hq : (gt rs j).1 = (gt rs k).1
                  · have q0 : ((gt rs j).1.toList == (gt rs k).1.toList) = true := by rw [seq_eql]; exact seq_true.2 hq
                    have HQ := Lib.hid (vdB_bad (Ok := OkT) (mx := 8) hlt (fun hk => hk.2.2.2 j hjk hq))
                    clear hq
                    go_wp2_with fail
                    go_quiet (fail)
                    go_wp2_with fail
                    go_ret
                    exact ⟨ret_bool HQ.out.symm, below_drewN hbw _⟩
                  · have q0 : ((gt rs j).1.toList == (gt rs k).1.toList) = false := by rw [seq_eql]; exact seq_false.2 hq
                    have HJ : Hid (∀ q, q < j + 1 → (gt rs q).1 ≠ (gt rs k).1) := Lib.hid (fun q hq1 => by
                      rcases Nat.lt_succ_iff_lt_or_eq.1 hq1 with h1 | rfl
                      · exact hdj.out q h1
                      · exact hq)
                    clear hq
                    go_wp2_with fail
                    go_quiet (fail)
                    go_wp2_with fail
                    go_roundw
                    case rel => exact ⟨j + 1, by omega, HJ, by go_num, below_drewN hbi _⟩
                    case measure => simp [intOf]; omega
                · obtain rfl : j = k := by omega
                  have HN := Lib.hid (upTo_succ hok.out ⟨ha, hb2, HORD.out, hdj.out⟩)
                  go_wp2_with fail
                  go_roundw
                  case rel => exact ⟨j + 1, by omega, HN, by go_num, hbw⟩
                  case measure => simp [intOf]; omega
        · have hb2n : inB (gt rs k).2 0 1000000000 = false := by simpa using hb2
          have HQ := Lib.hid (vdB_bad (Ok := OkT) (mx := 8) hlt (fun hk => hb2 hk.2.1))
          clear hb2
          go_wp2_with fail
          go_quiet (first | ((go_at_call 46; exact quiet_of (specWordValid_any _ _ hz))) | ((go_at_call 47; exact quiet_of (l1In_any _ _ _ _))))
          go_wp2_with fail
          go_ret
          exact ⟨ret_bool HQ.out.symm, below_drewN hbl _⟩
      · have han : wordB (gt rs k).1 = false := by simpa using ha
        have HQ := Lib.hid (vdB_bad (Ok := OkT) (mx := 8) hlt (fun hk => ha hk.1))
        clear ha
        go_wp2_with fail
        go_quiet (first | ((go_at_call 46; exact quiet_of (specWordValid_any _ _ hz))) | ((go_at_call 47; exact quiet_of (l1In_any _ _ _ _))))
        go_wp2_with fail
        go_ret
        exact ⟨ret_bool HQ.out.symm, below_drewN hbl _⟩
    · obtain rfl : k = rs.length := by omega
      go_wp2_with fail
      go_ret
      exact ⟨ret_bool (vdB_all hok.out), hbl⟩
set_option maxHeartbeats 1600000 in
theorem implTombsValid_any (A : Option Addr) (cap B : Nat) (rs : List ElTomb) (w : World) (h : RdE 2 encTomb w B A rs) (hB : B ≤ w.heap.size) (hl : rs.length ≤ 140737488351232) (hcap : rs.length ≤ cap) (hsz : ∀ k, k < rs.length → (gt rs k).1.size ≤ maxLen) :
    Calls Try.prog 10 #[.slice A rs.length cap] w fun e w' => e = .returned (.bool (tmB rs)) ∧ Below w.heap.size w w' := by
  by_cases hlen : rs.length ≤ 8
  · have hd : decide (8 < (rs.length : Int)) = false := decide_eq_false (by omega)
    have HD := Lib.hid hsz
    clear hsz
    go_enter Try.func10, Try.ntmps10
    go_wp2_with fail
    go_loopw [10] (fun i wr => ∃ k : Nat, k ≤ rs.length ∧ Hid (upTo OkT rs k) ∧ i = .int .i64 k ∧ Below w.heap.size w wr) (fun i _ => rs.length - (intOf i).toNat)
    case atStart => exact ⟨0, Nat.zero_le _, Lib.hid upTo_zero, rfl, Below.refl _ _⟩
    case round =>
      obtain ⟨k, hk, hok, rfl, hbl⟩ := hrel
      by_cases hlt : k < rs.length
      · have hz := HD.out k hlt
        have hrW := (h.below (hbl.mono hB)).alloc (Nat.le_trans hB hbl.size) (.cells #[.string ((gt rs k).1), .int .i64 ((gt rs k).2)] 54)
        obtain ⟨b, off, rfl, hb, hc⟩ := (h.below (hbl.mono hB)).at_ (by omega)
        have hbs : b < wr.heap.size := by have := hbl.size; omega
        have e0 : (wr.alloc (.cells #[.string ((gt rs k).1), .int .i64 ((gt rs k).2)] 54)).cell? ⟨wr.heap.size, 0, none⟩ = some (Value.string ((gt rs k).1)) := by rw [World.cell?_alloc_at _ _ _ _ rfl]; rfl
        have e1 : (wr.alloc (.cells #[.string ((gt rs k).1), .int .i64 ((gt rs k).2)] 54)).cell? ⟨wr.heap.size, 1, none⟩ = some (Value.int .i64 ((gt rs k).2)) := by rw [World.cell?_alloc_at _ _ _ _ rfl]; rfl
        have c0 : wr.cell? ⟨b, off + k * 2, none⟩ = some (Value.string ((gt rs k).1)) := hc k 0 (by omega) (by omega)
        have c1 : wr.cell? ⟨b, off + k * 2 + 1, none⟩ = some (Value.int .i64 ((gt rs k).2)) := hc k 1 (by omega) (by omega)
        have hsz1 : wr.heap.size < (wr.alloc (.cells #[.string ((gt rs k).1), .int .i64 ((gt rs k).2)] 54)).heap.size := by simp
        have hblW := hbl.alloc hbl.size (.cells #[.string ((gt rs k).1), .int .i64 ((gt rs k).2)] 54)
        have hpz : 0 < k → (wr.alloc (.cells #[.string ((gt rs k).1), .int .i64 ((gt rs k).2)] 54)).cell? ⟨b, off + (k - 1) * 2 + 1, none⟩ = some (Value.int .i64 ((gt rs (k - 1)).2)) := fun h0 => (((Below.refl wr.heap.size wr).alloc (Nat.le_refl _) (.cells #[.string ((gt rs k).1), .int .i64 ((gt rs k).2)] 54)).cell (p := ⟨b, off + (k - 1) * 2 + 1, none⟩) hbs).trans (hc (k - 1) 1 (by omega) (by omega))
        have HPZ := Lib.hid hpz
        clear hpz
        have hsl := fun W => run_upto (P := Try.prog) Try.underlying24 info_Tomb (some ⟨b, off, none⟩) rs.length cap k (by omega) W
        clear hc
        by_cases ha : wordB (gt rs k).1 = true
        · by_cases hb2 : inB (gt rs k).2 0 1000000000 = true
          · have hlk : (rs.take k).length = k := by simp; omega
            have hcall := fun (u : World) (hu : Below (wr.alloc (.cells #[.string ((gt rs k).1), .int .i64 ((gt rs k).2)] 54)).heap.size (wr.alloc (.cells #[.string ((gt rs k).1), .int .i64 ((gt rs k).2)] 54)) u) => tombOf_any (tlA (some ⟨b, off, none⟩) cap 0 2) cap B (rs.take k) (gt rs k).1 u ((RdE.head hrW cap k).below (hu.mono (Nat.le_trans hB (Nat.le_trans hbl.size (Nat.le_of_lt hsz1))))) (Nat.le_trans (Nat.le_trans hB (Nat.le_trans hbl.size (Nat.le_of_lt hsz1))) hu.size) (by omega)
            rw [hlk] at hcall
            have HCL := Lib.hid hcall
            clear hcall
            by_cases hdis : ∃ j, j < k ∧ (gt rs j).1 = (gt rs k).1
            · have hge : 0 ≤ tombIx (rs.take k) (gt rs k).1 := by
                obtain ⟨j, hj, e⟩ := hdis
                exact ix_take_some (by omega) hj (seq_true.2 e)
              have hgd : decide (0 ≤ tombIx (rs.take k) (gt rs k).1) = true := decide_eq_true hge
              have HQ := Lib.hid (vdB_bad (Ok := OkT) (mx := 8) hlt (fun hk => by
                obtain ⟨j, hj, e⟩ := hdis
                exact hk.2.2.2 j hj e))
              clear hdis hge
              go_wp2_with fail
              generalize (wr.alloc (.cells #[.string ((gt rs k).1), .int .i64 ((gt rs k).2)] 54)) = W at *
              refine wp_region_still_tail 16 (by kernel_rfl) (by kernel_rfl) ?_
              simp only [List.take_succ_cons, List.take_zero, List.drop_succ_cons, List.drop_zero]
              repeat (first | still_call (still_of (implWordValid_any _ _ hz)) | still_call (still_of (within_any _ _ _ _)) | still_step)
              refine wpStill_nil ?_
              go_wp2_with (go_at_call 33; refine (HCL.out _ (below_drew1 _)).mono ?_; rintro e w1 ⟨rfl, hb1⟩)
              go_ret
              exact ⟨ret_bool HQ.out.symm, hblW.trans (((below_drew1 _).trans hb1).mono hblW.size)⟩
            · have hneg : tombIx (rs.take k) (gt rs k).1 = -1 := ix_take_none (by omega) (fun j hj => seq_false.2 (fun e => hdis ⟨j, hj, e⟩))
              have hdj : ∀ j, j < k → (gt rs j).1 ≠ (gt rs k).1 := fun j hj e => hdis ⟨j, hj, e⟩
              have HDJ := Lib.hid hdj
              clear hdj hdis
              rw [hneg] at HCL
              clear hneg
              by_cases h0 : k = 0
              · have hk0 : decide (0 < (k : Int)) = false := by simp; omega
                have hk00 : decide (0 < k) = false := by simp; omega
                have HN := Lib.hid (upTo_succ hok.out ⟨ha, hb2, fun h => absurd h (by omega), HDJ.out⟩)
                clear h0
                go_wp2_with fail
                generalize (wr.alloc (.cells #[.string ((gt rs k).1), .int .i64 ((gt rs k).2)] 54)) = W at *
                refine wp_region_still_tail 16 (by kernel_rfl) (by kernel_rfl) ?_
                simp only [List.take_succ_cons, List.take_zero, List.drop_succ_cons, List.drop_zero]
                repeat (first | still_call (still_of (implWordValid_any _ _ hz)) | still_call (still_of (within_any _ _ _ _)) | still_step)
                refine wpStill_nil ?_
                go_wp2_with (go_at_call 33; refine (HCL.out _ (below_drew1 _)).mono ?_; rintro e w1 ⟨rfl, hb1⟩)
                have hblX := hblW.trans (((below_drew1 _).trans hb1).mono hblW.size)
                go_quiet (fail)
                go_wp2_with fail
                go_roundw
                case rel => exact ⟨k + 1, by omega, HN, by go_num, below_drewN hblX _⟩
                case measure => simp [intOf]; omega
              · have hk0 : decide (0 < (k : Int)) = true := by simp; omega
                have hk00 : decide (0 < k) = true := by simp; omega
                have hk1 : ((k : Int) - 1).toNat = k - 1 := by omega
                have hk2 : IntKind.i64.wrap ((k : Int) - 1) = (k : Int) - 1 := IntWalk.i64_in _ (by omega)
                have hk3 : (1 : Int) ≤ (k : Int) := by omega
                have hk4 : (0 : Int) ≤ (k : Int) - 1 := by omega
                have hk5 : (k : Int) - 1 < (rs.length : Int) := by omega
                by_cases hw : (gt rs k).2 < (gt rs (k - 1)).2
                · have hwd : decide ((gt rs k).2 < (gt rs (k - 1)).2) = true := by simp [hw]
                  have HQ := Lib.hid (vdB_bad (Ok := OkT) (mx := 8) hlt (fun hk => absurd (hk.2.2.1 (by omega)) (by omega)))
                  go_wp2_with fail
                  generalize (wr.alloc (.cells #[.string ((gt rs k).1), .int .i64 ((gt rs k).2)] 54)) = W at *
                  have hpp : W.cell? ⟨b, off + (k - 1) * 2 + 1, none⟩ = some (Value.int .i64 ((gt rs (k - 1)).2)) := HPZ.out (by omega)
                  have hbW : b < W.heap.size := by omega
                  refine wp_region_still_tail 16 (by kernel_rfl) (by kernel_rfl) ?_
                  simp only [List.take_succ_cons, List.take_zero, List.drop_succ_cons, List.drop_zero]
                  repeat (first | still_call (still_of (implWordValid_any _ _ hz)) | still_call (still_of (within_any _ _ _ _)) | still_step)
                  refine wpStill_nil ?_
                  go_wp2_with (go_at_call 33; refine (HCL.out _ (below_drew1 _)).mono ?_; rintro e w1 ⟨rfl, hb1⟩; have hq1 := (below_drew1 (B := W.heap.size) W).trans hb1; have x1 := (hq1.cell hsz1).trans e1; have y1 := (hq1.cell hbW).trans hpp)
                  have hblX := hblW.trans (((below_drew1 _).trans hb1).mono hblW.size)
                  go_quiet (fail)
                  go_wp2_with fail
                  go_ret
                  exact ⟨ret_bool HQ.out.symm, below_drewN hblX _⟩
                · have hwd : decide ((gt rs k).2 < (gt rs (k - 1)).2) = false := by simp; omega
                  have HN := Lib.hid (upTo_succ hok.out ⟨ha, hb2, fun _ => by omega, HDJ.out⟩)
                  go_wp2_with fail
                  generalize (wr.alloc (.cells #[.string ((gt rs k).1), .int .i64 ((gt rs k).2)] 54)) = W at *
                  have hpp : W.cell? ⟨b, off + (k - 1) * 2 + 1, none⟩ = some (Value.int .i64 ((gt rs (k - 1)).2)) := HPZ.out (by omega)
                  have hbW : b < W.heap.size := by omega
                  refine wp_region_still_tail 16 (by kernel_rfl) (by kernel_rfl) ?_
                  simp only [List.take_succ_cons, List.take_zero, List.drop_succ_cons, List.drop_zero]
                  repeat (first | still_call (still_of (implWordValid_any _ _ hz)) | still_call (still_of (within_any _ _ _ _)) | still_step)
                  refine wpStill_nil ?_
                  go_wp2_with (go_at_call 33; refine (HCL.out _ (below_drew1 _)).mono ?_; rintro e w1 ⟨rfl, hb1⟩; have hq1 := (below_drew1 (B := W.heap.size) W).trans hb1; have x1 := (hq1.cell hsz1).trans e1; have y1 := (hq1.cell hbW).trans hpp)
                  have hblX := hblW.trans (((below_drew1 _).trans hb1).mono hblW.size)
                  go_quiet (fail)
                  go_wp2_with fail
                  go_roundw
                  case rel => exact ⟨k + 1, by omega, HN, by go_num, below_drewN hblX _⟩
                  case measure => simp [intOf]; omega
          · have hb2n : inB (gt rs k).2 0 1000000000 = false := by simpa using hb2
            have HQ := Lib.hid (vdB_bad (Ok := OkT) (mx := 8) hlt (fun hk => hb2 hk.2.1))
            clear hb2
            go_wp2_with fail
            generalize (wr.alloc (.cells #[.string ((gt rs k).1), .int .i64 ((gt rs k).2)] 54)) = W at *
            go_quiet (first | ((go_at_call 31; exact quiet_of (implWordValid_any _ _ hz))) | ((go_at_call 32; exact quiet_of (within_any _ _ _ _))))
            go_wp2_with fail
            go_ret
            exact ⟨ret_bool HQ.out.symm, below_drewN hblW _⟩
        · have han : wordB (gt rs k).1 = false := by simpa using ha
          have HQ := Lib.hid (vdB_bad (Ok := OkT) (mx := 8) hlt (fun hk => ha hk.1))
          clear ha
          go_wp2_with fail
          generalize (wr.alloc (.cells #[.string ((gt rs k).1), .int .i64 ((gt rs k).2)] 54)) = W at *
          go_quiet (first | ((go_at_call 31; exact quiet_of (implWordValid_any _ _ hz))) | ((go_at_call 32; exact quiet_of (within_any _ _ _ _))))
          go_wp2_with fail
          go_ret
          exact ⟨ret_bool HQ.out.symm, below_drewN hblW _⟩
      · obtain rfl : k = rs.length := by omega
        go_wp2_with fail
        go_ret
        exact ⟨ret_bool (vdB_true ⟨hlen, hok.out⟩).symm, hbl⟩
  · have hd : decide (8 < (rs.length : Int)) = true := decide_eq_true (by omega)
    have HQ := Lib.hid (vdB_long (Ok := OkT) (mx := 8) (show 8 < rs.length by omega))
    go_enter Try.func10, Try.ntmps10
    go_wp2_with fail
    go_ret
    exact ⟨ret_bool HQ.out.symm, Below.refl _ _⟩
end Go.Proofs.Ytnplpllhochlfaa
