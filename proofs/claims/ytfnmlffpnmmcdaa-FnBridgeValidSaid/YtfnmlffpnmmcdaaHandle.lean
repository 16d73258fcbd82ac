import Derived.Test.YtfnmlffpnmmcdaaMark
import Derived.StillTailTactics
import Derived.Deep.RegionHeld3
namespace Go.Proofs.Ytfnmlffpnmmcdaa
open Go.RowKit
theorem info_Handle : (Try.prog.info? 24).map (fun i => (i.zero, i.size, i.bytes)) = some (some (.agg #[.string ByteArray.empty, .string ByteArray.empty]), 2, 32) := by kernel_rfl
abbrev ElHandle : Type := ByteArray × ByteArray
/-- Its cells. -/
def encHandle (p : ElHandle) : Nat → Value
  | 0 => Value.string (p.1)
  | _ => Value.string (p.2)
theorem encHandle_one (p : ElHandle) (i : Nat) : (encHandle p i).oneCell' = true := by unfold encHandle; split <;> rfl
theorem toHandle_any (a : ByteArray) (b : ByteArray) (w : World) : Calls Try.prog 26 #[.agg #[.string a, .string b]] w fun e w' => e = .returned (.agg #[.string a, .string b]) ∧ Below w.heap.size w w' := by
  go_enter Try.func26, Try.ntmps26
  go_wp2
  refine bodyPost_ret (v := .agg #[.string a, .string b]) (by simp [results, Try.results26, go_sem]) rfl ⟨rfl, ?_⟩
  repeat (first | exact Below.refl _ _ | refine Below.alloc ?_ (by simp; try omega) _ | refine Below.setCell ?_ (by simp; try omega) _)

theorem stood_Handle : Try.prog.stoodInHeld 24 = false := by kernel_rfl
theorem guard_Handle : Try.prog.eqGuardType Try.prog.depth 24 = false := by kernel_rfl
theorem eqIn_Handle (a : ByteArray) (b : ByteArray) (p : ByteArray) (q : ByteArray) (w : World) : (Op.equalIn 10000 24 (.agg #[.string a, .string b]) (.agg #[.string p, .string q])).run Try.prog w = .ok (eqEl (α := ElHandle) (a, b) (p, q)) w := by
  rw [run_equalIn_agg w 9999 24 _ _ (by rw [Program.fieldsOf, Try.underlying24]) stood_Handle]
  simp only [Program.fieldsOf, Try.underlying24]
  simp [go_sem, Try.underlying9]
  by_cases h0 : a = p <;> by_cases h1 : b = q <;> simp [eqEl, ba_list, *]
theorem neq_Handle (a : ByteArray) (b : ByteArray) (p : ByteArray) (q : ByteArray) (w : World) : (binOp .neq 24 (.agg #[.string a, .string b]) (.agg #[.string p, .string q])).run Try.prog w = .ok (.bool (!eqEl (α := ElHandle) (a, b) (p, q))) w := by
  rw [run_neq_struct, eqIn_Handle]; rfl
theorem eql_Handle (a : ByteArray) (b : ByteArray) (p : ByteArray) (q : ByteArray) (w : World) : (binOp .eql 24 (.agg #[.string a, .string b]) (.agg #[.string p, .string q])).run Try.prog w = .ok (.bool (eqEl (α := ElHandle) (a, b) (p, q))) w := by
  rw [run_eql_struct, eqIn_Handle]; rfl
theorem eqHandle_any (a : ByteArray) (b : ByteArray) (p : ByteArray) (q : ByteArray) (w : World) : Calls Try.prog 29 #[.agg #[.string a, .string b], .agg #[.string p, .string q]] w fun e w' => e = .returned (.bool (eqEl (α := ElHandle) (a, b) (p, q))) ∧ Below w.heap.size w w' := by
  by_cases h0 : a = p
  · have b0 : (a.toList == p.toList) = true := by rw [seq_eql]; simp [seq, h0]
    have b0n : (a.toList != p.toList) = false := by rw [seq_neq]; simp [seq, h0]
    by_cases h1 : b = q
    · have b1 : (b.toList == q.toList) = true := by rw [seq_eql]; simp [seq, h1]
      have b1n : (b.toList != q.toList) = false := by rw [seq_neq]; simp [seq, h1]
      have HQ := Lib.hid (eqEl_true (α := ElHandle) (show ((a, b) : ElHandle) = (p, q) by simp [*]))
      clear h0 h1
      go_enter Try.func29, Try.ntmps29
      go_wp2
      go_ret
      exact ⟨ret_bool HQ.out.symm, (((Below.refl _ _).alloc (Nat.le_refl _) _).alloc (by simp) _)⟩
    · have b1 : (b.toList == q.toList) = false := by rw [seq_eql]; simp [seq, h1]
      have b1n : (b.toList != q.toList) = true := by rw [seq_neq]; simp [seq, h1]
      have HQ := Lib.hid (eqEl_false (α := ElHandle) (show ((a, b) : ElHandle) ≠ (p, q) by simp [*]))
      clear h0 h1
      go_enter Try.func29, Try.ntmps29
      go_wp2
      go_ret
      exact ⟨ret_bool HQ.out.symm, (((Below.refl _ _).alloc (Nat.le_refl _) _).alloc (by simp) _)⟩
  · have b0 : (a.toList == p.toList) = false := by rw [seq_eql]; simp [seq, h0]
    have b0n : (a.toList != p.toList) = true := by rw [seq_neq]; simp [seq, h0]
    have HQ := Lib.hid (eqEl_false (α := ElHandle) (show ((a, b) : ElHandle) ≠ (p, q) by simp [*]))
    clear h0
    go_enter Try.func29, Try.ntmps29
    go_wp2
    go_ret
    exact ⟨ret_bool HQ.out.symm, (((Below.refl _ _).alloc (Nat.le_refl _) _).alloc (by simp) _)⟩
theorem toHandleS_any (A : Option Addr) (cap B : Nat) (xs : List ElHandle) (w : World) (h : RdE 2 encHandle w B A xs) (hB : B ≤ w.heap.size) (hl : xs.length ≤ 1048576) :
    Calls Try.prog 28 #[.slice A xs.length cap] w fun e w' => ∃ A' : Option Addr, e = .returned (.slice A' xs.length xs.length) ∧ OwnE 2 encHandle 24 w' w.heap.size A' xs.length xs ∧ Below w.heap.size w w' := by
  have hmk := mk_run (P := Try.prog) 26 24 _ _ _ Try.underlying26 info_Handle xs.length (by omega) (by omega)
  go_enter Try.func28, Try.ntmps28
  go_wp2_with fail
  have hst := Own.made w 24 2 xs.length #[.string ByteArray.empty, .string ByteArray.empty] encHandle (by simp only [maxLen]; omega) rfl (fun i hi => by rcases (by omega : i = 0 ∨ i = 1) with rfl | rfl <;> rfl)
  go_loopw [4] (fun i wr => ∃ k : Nat, k ≤ xs.length ∧ i = .int .i64 k ∧ Own wr w.heap.size 24 2 (some ⟨w.heap.size, 0, none⟩) xs.length xs.length (cE 2 encHandle (xs.take k)) ∧ Below w.heap.size w wr) (fun i _ => xs.length - (intOf i).toNat)
  case atStart => exact ⟨0, Nat.zero_le _, rfl, hst, (Below.refl _ _).alloc (Nat.le_refl _) _⟩
  case round =>
    clear hst
    obtain ⟨k, hk, rfl, hown, hbl⟩ := hrel
    by_cases hlt : k < xs.length
    · obtain ⟨b, off, rfl, hb, hc⟩ := (h.below (hbl.mono hB)).at_ (by omega)
      have c0 : wr.cell? ⟨b, off + k * 2, none⟩ = some (Value.string ((gt xs k).1)) := hc k 0 (by omega) (by omega)
      have c1 : wr.cell? ⟨b, off + k * 2 + 1, none⟩ = some (Value.string ((gt xs k).2)) := hc k 1 (by omega) (by omega)
      clear hc
      go_wp2_with fail
      refine (toHandle_any _ _ _).mono ?_
      rintro e w1 ⟨rfl, hb1⟩
      have hown1 := Own.below hown hb1
      have d0 := hown1.cell rfl (j := k * 2) (by omega)
      have e0 := hown1.frozen rfl (k * 2)
      have d1 := hown1.cell rfl (j := k * 2 + 1) (by omega)
      have e1 := hown1.frozen rfl (k * 2 + 1)
      have s0 := (hown1).set rfl (j := k * 2) (Value.string ((gt xs k).1))
      have s1 := (s0.1).set rfl (j := k * 2 + 1) (Value.string ((gt xs k).2))
      have HS := Lib.hid s1.1
      have HG := Lib.hid ((s0.2).trans s1.2)
      have HX := Lib.hid (hbl.trans (hb1.mono hbl.size))
      have hsz := Nat.le_trans hbl.size hb1.size
      clear s0 s1 hown hown1 hbl hb1
      go_wp2_with fail
      go_roundw
      case rel => exact ⟨k + 1, by omega, by go_num, Own.congr HS.out (fun j _ => by
          rw [cE_take_step encHandle]
          exact set_cells_2 k j _ _ rfl rfl), HX.out.trans (grown_below HG.out (fun b hb => by simp [blk] at hb; omega) hsz)⟩
      case measure => simp [intOf]; omega
    · obtain rfl : k = xs.length := by omega
      go_wp2_with fail
      go_ret
      rw [List.take_of_length_le (Nat.le_refl _)] at hown
      exact ⟨_, rfl, hown, hbl⟩
theorem eqHandleS_any (A A' : Option Addr) (cap cap' B : Nat) (xs ys : List ElHandle) (w : World) (h : RdE 2 encHandle w B A xs) (h' : RdE 2 encHandle w B A' ys) (hB : B ≤ w.heap.size) (hl : xs.length ≤ 140737488351232) (hl' : ys.length ≤ 140737488351232) :
    Calls Try.prog 31 #[.slice A xs.length cap, .slice A' ys.length cap'] w fun e w' => e = .returned (.bool (sameB xs ys)) ∧ Below w.heap.size w w' := by
  by_cases hlen : xs.length = ys.length
  · have HL := Lib.hid hlen
    have hd : ((xs.length : Int) != (ys.length : Int)) = false := by rw [hlen]; simp
    have hle : xs.length ≤ ys.length := by omega
    clear hlen
    go_enter Try.func31, Try.ntmps31
    go_wp2_with fail
    go_loopw [5] (fun i wr => ∃ k : Nat, k ≤ xs.length ∧ Hid (∀ j, j < k → gt xs j = gt ys j) ∧ i = .int .i64 k ∧ Below w.heap.size w wr) (fun i _ => xs.length - (intOf i).toNat)
    case atStart => exact ⟨0, Nat.zero_le _, Lib.hid (fun j hj => absurd hj (by omega)), rfl, Below.refl _ _⟩
    case round =>
      obtain ⟨k, hk, HO, rfl, hbl⟩ := hrel
      by_cases hlt : k < xs.length
      · obtain ⟨b, off, rfl, hb, hc⟩ := (h.below (hbl.mono hB)).at_ (by omega)
        obtain ⟨b', off', rfl, hb', hc'⟩ := (h'.below (hbl.mono hB)).at_ (by omega)
        have c0 : wr.cell? ⟨b, off + k * 2, none⟩ = some (Value.string ((gt xs k).1)) := hc k 0 (by omega) (by omega)
        have c1 : wr.cell? ⟨b, off + k * 2 + 1, none⟩ = some (Value.string ((gt xs k).2)) := hc k 1 (by omega) (by omega)
        have d0 : wr.cell? ⟨b', off' + k * 2, none⟩ = some (Value.string ((gt ys k).1)) := hc' k 0 (by omega) (by omega)
        have d1 : wr.cell? ⟨b', off' + k * 2 + 1, none⟩ = some (Value.string ((gt ys k).2)) := hc' k 1 (by omega) (by omega)
        have hlt' : k < ys.length := by omega
        clear hc hc'
        by_cases hne : gt xs k = gt ys k
        · have hn : eqEl (α := ElHandle) ((gt xs k).1, (gt xs k).2) ((gt ys k).1, (gt ys k).2) = true := eqEl_true hne
          have HN := Lib.hid hne; clear hne
          go_wp2_with fail
          go_still_tail 8, (by kernel_rfl)
          go_wp2_with (go_at_call 29; refine (eqHandle_any _ _ _ _ _).mono ?_; rintro e w1 ⟨rfl, hb1⟩)
          go_roundw
          case rel => exact ⟨k + 1, by omega, Lib.hid (fun j hj => by
            rcases Nat.lt_succ_iff_lt_or_eq.1 hj with h1 | rfl
            · exact HO.out j h1
            · exact HN.out), by go_num, hbl.trans ((below_drew1 _).trans hb1 |> (·.mono hbl.size))⟩
          case measure => simp [intOf]; omega
        · have hn : eqEl (α := ElHandle) ((gt xs k).1, (gt xs k).2) ((gt ys k).1, (gt ys k).2) = false := eqEl_false hne
          have HN := Lib.hid hne; clear hne
          go_wp2_with fail
          go_still_tail 8, (by kernel_rfl)
          go_wp2_with (go_at_call 29; refine (eqHandle_any _ _ _ _ _).mono ?_; rintro e w1 ⟨rfl, hb1⟩)
          go_ret
          exact ⟨ret_bool (sameB_at HN.out).symm, hbl.trans ((below_drew1 _).trans hb1 |> (·.mono hbl.size))⟩
      · obtain rfl : k = xs.length := by omega
        go_wp2_with fail
        go_ret
        exact ⟨ret_bool (sameB_true HL.out HO.out).symm, hbl⟩
  · have hd : ((xs.length : Int) != (ys.length : Int)) = true := by simp; omega
    go_enter Try.func31, Try.ntmps31
    go_wp2_with fail
    go_ret
    exact ⟨ret_bool (sameB_len hlen).symm, Below.refl _ _⟩
/-- What marking leaves in the cells. -/
def mkHandle (k : Int) (j : Nat) : Value :=
  match j % 2 with
  | 0 => Value.string (mtext (k + j))
  | _ => Value.string (mtext (k + j))
theorem mkHandle_0 (k : Int) (j : Nat) : mkHandle k (j * 2) = Value.string (mtext (k + (j : Int) * 2)) := by
  unfold mkHandle
  rw [show (j * 2) % 2 = 0 by omega, show (k + ((j * 2 : Nat) : Int)) = k + (j : Int) * 2 by omega]
  rfl
theorem mkHandle_1 (k : Int) (j : Nat) : mkHandle k (j * 2 + 1) = Value.string (mtext (k + (j : Int) * 2 + 1)) := by
  unfold mkHandle
  rw [show (j * 2 + 1) % 2 = 1 by omega, show (k + ((j * 2 + 1 : Nat) : Int)) = k + (j : Int) * 2 + 1 by omega]
  rfl
/-- How many bytes it has. -/
def byHandle (x : ElHandle) : Nat := x.1.size + x.2.size
/-- How many bytes they have, and one each. -/
def totHandle (xs : List ElHandle) : Nat := xs.length + (xs.map byHandle).sum
/-- Those of the first k. -/
def byToHandle (xs : List ElHandle) (k : Nat) : Nat := ((xs.take k).map byHandle).sum
theorem sum_leHandle (xs : List ElHandle) (k : Nat) : byToHandle xs k ≤ (xs.map byHandle).sum := by
  unfold byToHandle
  conv => rhs; rw [← List.take_append_drop k xs, List.map_append, List.sum_append]
  omega
theorem sum_stepHandle {xs : List ElHandle} {k : Nat} (h : k < xs.length) : byToHandle xs (k + 1) = byToHandle xs k + byHandle (gt xs k) := by
  unfold byToHandle
  rw [take_snoc h, List.map_append, List.sum_append]; simp
theorem byTo_zeroHandle (xs : List ElHandle) : byToHandle xs 0 = 0 := rfl
theorem byTo_allHandle (xs : List ElHandle) : byToHandle xs xs.length = (xs.map byHandle).sum := by unfold byToHandle; rw [List.take_length]
theorem szHandle_any (a : ByteArray) (b : ByteArray) (left : Int) (w : World) (h0 : 0 ≤ left) (h1 : left ≤ 1048576) (hs0 : a.size ≤ maxLen) (hs1 : b.size ≤ maxLen) :
    Calls Try.prog 23 #[.agg #[.string a, .string b], .int .i64 left] w fun e w' => e = .returned (.int .i64 (szL left (a.size + b.size))) ∧ Below w.heap.size w w' := by
  unfold maxLen at hs0 hs1
  by_cases hz0 : left - (a.size : Int) < 0
  · have hd0 : decide (left - (a.size : Int) < 0) = true := by simp [hz0]
    have HZ := Lib.hid (szL_no (left := left) (n := a.size + b.size) (by omega))
    go_enter Try.func23, Try.ntmps23
    go_wp2_with fail
    go_ret
    exact ⟨ret_int HZ.out.symm, (Below.refl _ _).alloc (Nat.le_refl _) _⟩
  · have hd0 : decide (left - (a.size : Int) < 0) = false := by simp; omega
    by_cases hz1 : left - (a.size : Int) - (b.size : Int) < 0
    · have hd1 : decide (left - (a.size : Int) - (b.size : Int) < 0) = true := by simp [hz1]
      have HZ := Lib.hid (szL_no (left := left) (n := a.size + b.size) (by omega))
      go_enter Try.func23, Try.ntmps23
      go_wp2_with fail
      go_ret
      exact ⟨ret_int HZ.out.symm, (Below.refl _ _).alloc (Nat.le_refl _) _⟩
    · have hd1 : decide (left - (a.size : Int) - (b.size : Int) < 0) = false := by simp; omega
      have HZ := Lib.hid (show left - (a.size : Int) - (b.size : Int) = szL left (a.size + b.size) by have := szL_yes (left := left) (n := a.size + b.size) (by omega); omega)
      go_enter Try.func23, Try.ntmps23
      go_wp2_with fail
      go_ret
      exact ⟨ret_int HZ.out, (Below.refl _ _).alloc (Nat.le_refl _) _⟩
set_option maxHeartbeats 800000 in
theorem szHandleS_any (A : Option Addr) (cap B : Nat) (xs : List ElHandle) (left : Int) (w : World) (h : RdE 2 encHandle w B A xs) (hB : B ≤ w.heap.size) (hl : xs.length ≤ 9223372036854775807) (hsz : ∀ k, k < xs.length → (gt xs k).1.size ≤ maxLen ∧ (gt xs k).2.size ≤ maxLen) (h0 : 0 ≤ left) (h1 : left ≤ 1048576) :
    Calls Try.prog 25 #[.slice A xs.length cap, .int .i64 left] w fun e w' => e = .returned (.int .i64 (szL left (totHandle xs))) ∧ Below w.heap.size w w' := by
  by_cases hlt : left - (xs.length : Int) < 0
  · have hd : decide (left - (xs.length : Int) < 0) = true := by simp [hlt]
    have HZ := Lib.hid (szL_no (left := left) (n := totHandle xs) (by unfold totHandle; omega))
    go_enter Try.func25, Try.ntmps25
    go_wp2_with fail
    go_ret
    exact ⟨ret_int HZ.out.symm, Below.refl _ _⟩
  · have hd : decide (left - (xs.length : Int) < 0) = false := by simp; omega
    have HD := Lib.hid hsz
    clear hsz
    go_enter Try.func25, Try.ntmps25
    go_wp2_with fail
    go_loopw [1, 5] (fun q i wr => ∃ k : Nat, k ≤ xs.length ∧ i = .int .i64 k ∧ q = .int .i64 (left - xs.length - byToHandle xs k) ∧ 0 ≤ left - xs.length - (byToHandle xs k : Nat) ∧ Below w.heap.size w wr) (fun _ i _ => xs.length - (intOf i).toNat)
    case atStart => exact ⟨0, Nat.zero_le _, rfl, by rw [byTo_zeroHandle]; simp, by rw [byTo_zeroHandle]; simp; omega, Below.refl _ _⟩
    case round =>
      obtain ⟨k, hk, rfl, rfl, hq, hbl⟩ := hrel
      have hle := sum_leHandle xs k
      by_cases hlt2 : k < xs.length
      · have hst := sum_stepHandle hlt2
        have hle2 := sum_leHandle xs (k + 1)
        obtain ⟨z0, z1⟩ := HD.out k hlt2
        obtain ⟨b, off, rfl, hb, hc⟩ := (h.below (hbl.mono hB)).at_ (by omega)
        have c0 : wr.cell? ⟨b, off + k * 2, none⟩ = some (Value.string ((gt xs k).1)) := hc k 0 (by omega) (by omega)
        have c1 : wr.cell? ⟨b, off + k * 2 + 1, none⟩ = some (Value.string ((gt xs k).2)) := hc k 1 (by omega) (by omega)
        clear hc
        have hby : byHandle (gt xs k) = (gt xs k).1.size + (gt xs k).2.size := rfl
        by_cases hneg : left - xs.length - byToHandle xs k - (byHandle (gt xs k) : Int) < 0
        · have HZ := Lib.hid (szL_no (left := left) (n := totHandle xs) (by unfold totHandle; omega))
          have HN := Lib.hid (szL_no hneg)
          rw [hby] at HN
          have HC : Hid (∀ W, Calls Try.prog 23 #[.agg #[.string (gt xs k).1, .string (gt xs k).2], .int .i64 (left - xs.length - byToHandle xs k)] W fun e w' => e = .returned (.int .i64 (-1)) ∧ Below W.heap.size W w') := Lib.hid (fun W => by
            have := szHandle_any (gt xs k).1 (gt xs k).2 (left - xs.length - byToHandle xs k) W (by omega) (by omega) z0 z1
            rw [HN.out] at this
            exact this)
          clear hst hby
          go_wp2_with (go_at_call 23; refine (HC.out _).mono ?_; rintro e w1 ⟨rfl, hb1⟩)
          go_ret
          exact ⟨ret_int HZ.out.symm, hbl.trans (hb1.mono hbl.size)⟩
        · have HN := Lib.hid (szL_yes (left := left - xs.length - byToHandle xs k) (n := byHandle (gt xs k)) (by omega))
          rw [hby] at HN
          have HST := Lib.hid hst
          have hd3 : decide (left - xs.length - byToHandle xs k - ((((gt xs k).1.size + (gt xs k).2.size : Nat)) : Int) < 0) = false := by simp; omega
          rw [hby] at hneg
          have HC : Hid (∀ W, Calls Try.prog 23 #[.agg #[.string (gt xs k).1, .string (gt xs k).2], .int .i64 (left - xs.length - byToHandle xs k)] W fun e w' => e = .returned (.int .i64 (left - xs.length - byToHandle xs k - ((((gt xs k).1.size + (gt xs k).2.size : Nat)) : Int))) ∧ Below W.heap.size W w') := Lib.hid (fun W => by
            have := szHandle_any (gt xs k).1 (gt xs k).2 (left - xs.length - byToHandle xs k) W (by omega) (by omega) z0 z1
            rw [HN.out] at this
            exact this)
          clear hst hby
          go_wp2_with (go_at_call 23; refine (HC.out _).mono ?_; rintro e w1 ⟨rfl, hb1⟩)
          go_roundw
          case rel => exact ⟨k + 1, by omega, by go_num, by rw [HST.out]; unfold byHandle; go_num, by rw [HST.out]; unfold byHandle; omega, hbl.trans (hb1.mono hbl.size)⟩
          case measure => simp [intOf]; omega
      · obtain rfl : k = xs.length := by omega
        rw [byTo_allHandle] at hq ⊢
        have HZ := Lib.hid (show left - xs.length - ((xs.map byHandle).sum : Nat) = szL left (totHandle xs) by have := szL_yes (left := left) (n := totHandle xs) (by unfold totHandle; omega); unfold totHandle at this ⊢; omega)
        go_wp2_with fail
        go_ret
        exact ⟨ret_int HZ.out, hbl⟩end Go.Proofs.Ytfnmlffpnmmcdaa
