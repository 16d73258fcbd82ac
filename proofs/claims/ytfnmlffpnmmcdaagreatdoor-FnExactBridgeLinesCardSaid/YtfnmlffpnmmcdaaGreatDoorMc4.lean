/- Parts of the proof, merged: Handle HvPlain FollowPlain FolPlain FeedPlain HtPlain ChPlain UfPlain ActPlain HandleV FeedA FeedB FollowA BridgeV BlPlain StrL. -/
import Derived.Test.YtfnmlffpnmmcdaaGreatDoorMc3
import Derived.StillTailTactics
import Derived.Deep.RegionHeld3
import Derived.Test.YtfnmlffpnmmcdaaGreatDoorMc1
import Derived.Test.YtfnmlffpnmmcdaaGreatDoorMc2
import Derived.Lib.Join
namespace Go.Proofs.YtfnmlffpnmmcdaaGreatDoor
set_option maxRecDepth 100000
open Go.RowKit
theorem info_Handle : (Tryz.prog.info? 29).map (fun i => (i.zero, i.size, i.bytes)) = some (some (.agg #[.string ByteArray.empty, .string ByteArray.empty]), 2, 32) := by kernel_rfl
abbrev ElHandle : Type := ByteArray × ByteArray
def encHandle (p : ElHandle) : Nat → Value
 | 0 => Value.string (p.1)
 | _ => Value.string (p.2)
theorem encHandle_one (p : ElHandle) (i : Nat) : (encHandle p i).oneCell' = true := by unfold encHandle; split <;> rfl
theorem toHandle_any (a : ByteArray) (b : ByteArray) (w : World) : Calls Tryz.prog 43 #[.agg #[.string a, .string b]] w fun e w' => e = .returned (.agg #[.string a, .string b]) ∧ Below w.heap.size w w' := by
 go_enter Tryz.func43, Tryz.ntmps43
 go_wp2
 refine bodyPost_ret (v := .agg #[.string a, .string b]) (by simp [results, Tryz.results43, go_sem]) rfl ⟨rfl, ?_⟩
 repeat (first | exact Below.refl _ _ | refine Below.alloc ?_ (by simp; try omega) _ | refine Below.setCell ?_ (by simp; try omega) _)

theorem stood_Handle : Tryz.prog.stoodInHeld 29 = false := by kernel_rfl
theorem guard_Handle : Tryz.prog.eqGuardType Tryz.prog.depth 29 = false := by kernel_rfl
theorem eqIn_Handle (a : ByteArray) (b : ByteArray) (p : ByteArray) (q : ByteArray) (w : World) : (Op.equalIn 10000 29 (.agg #[.string a, .string b]) (.agg #[.string p, .string q])).run Tryz.prog w = .ok (eqEl (α := ElHandle) (a, b) (p, q)) w := by
 rw [run_equalIn_agg w 9999 29 _ _ (by rw [Program.fieldsOf, Tryz.underlying29]) stood_Handle]
 simp only [Program.fieldsOf, Tryz.underlying29]
 simp [go_sem, Tryz.underlying9]
 by_cases h0 : a = p <;> by_cases h1 : b = q <;> simp [eqEl, ba_list, *]
theorem neq_Handle (a : ByteArray) (b : ByteArray) (p : ByteArray) (q : ByteArray) (w : World) : (binOp .neq 29 (.agg #[.string a, .string b]) (.agg #[.string p, .string q])).run Tryz.prog w = .ok (.bool (!eqEl (α := ElHandle) (a, b) (p, q))) w := by
 rw [run_neq_struct, eqIn_Handle]; rfl
theorem eql_Handle (a : ByteArray) (b : ByteArray) (p : ByteArray) (q : ByteArray) (w : World) : (binOp .eql 29 (.agg #[.string a, .string b]) (.agg #[.string p, .string q])).run Tryz.prog w = .ok (.bool (eqEl (α := ElHandle) (a, b) (p, q))) w := by
 rw [run_eql_struct, eqIn_Handle]; rfl
theorem eqHandle_any (a : ByteArray) (b : ByteArray) (p : ByteArray) (q : ByteArray) (w : World) : Calls Tryz.prog 54 #[.agg #[.string a, .string b], .agg #[.string p, .string q]] w fun e w' => e = .returned (.bool (eqEl (α := ElHandle) (a, b) (p, q))) ∧ Below w.heap.size w w' := by
 by_cases h0 : a = p
 ·have b0 : (a.toList == p.toList) = true := by rw [seq_eql]; simp [seq, h0]
  have b0n : (a.toList != p.toList) = false := by rw [seq_neq]; simp [seq, h0]
  by_cases h1 : b = q
  ·have b1 : (b.toList == q.toList) = true := by rw [seq_eql]; simp [seq, h1]
   have b1n : (b.toList != q.toList) = false := by rw [seq_neq]; simp [seq, h1]
   have HQ := Lib.hid (eqEl_true (α := ElHandle) (show ((a, b) : ElHandle) = (p, q) by simp [*]))
   clear h0 h1
   go_enter Tryz.func54, Tryz.ntmps54
   go_wp2
   go_ret
   exact ⟨ret_bool HQ.out.symm, (((Below.refl _ _).alloc (Nat.le_refl _) _).alloc (by simp) _)⟩
  ·have b1 : (b.toList == q.toList) = false := by rw [seq_eql]; simp [seq, h1]
   have b1n : (b.toList != q.toList) = true := by rw [seq_neq]; simp [seq, h1]
   have HQ := Lib.hid (eqEl_false (α := ElHandle) (show ((a, b) : ElHandle) ≠ (p, q) by simp [*]))
   clear h0 h1
   go_enter Tryz.func54, Tryz.ntmps54
   go_wp2
   go_ret
   exact ⟨ret_bool HQ.out.symm, (((Below.refl _ _).alloc (Nat.le_refl _) _).alloc (by simp) _)⟩
 ·have b0 : (a.toList == p.toList) = false := by rw [seq_eql]; simp [seq, h0]
  have b0n : (a.toList != p.toList) = true := by rw [seq_neq]; simp [seq, h0]
  have HQ := Lib.hid (eqEl_false (α := ElHandle) (show ((a, b) : ElHandle) ≠ (p, q) by simp [*]))
  clear h0
  go_enter Tryz.func54, Tryz.ntmps54
  go_wp2
  go_ret
  exact ⟨ret_bool HQ.out.symm, (((Below.refl _ _).alloc (Nat.le_refl _) _).alloc (by simp) _)⟩
theorem toHandleS_any (A : Option Addr) (cap B : Nat) (xs : List ElHandle) (w : World) (h : RdE 2 encHandle w B A xs) (hB : B ≤ w.heap.size) (hl : xs.length ≤ 1048576) :
    Calls Tryz.prog 45 #[.slice A xs.length cap] w fun e w' => ∃ A' : Option Addr, e = .returned (.slice A' xs.length xs.length) ∧ OwnE 2 encHandle 29 w' w.heap.size A' xs.length xs ∧ Below w.heap.size w w' := by
 have hmk := mk_run (P := Tryz.prog) 31 29 _ _ _ Tryz.underlying31 info_Handle xs.length (by omega) (by omega)
 go_enter Tryz.func45, Tryz.ntmps45
 go_wp2_with fail
 have hst := Own.made w 29 2 xs.length #[.string ByteArray.empty, .string ByteArray.empty] encHandle (by simp only [maxLen]; omega) rfl (fun i hi => by rcases (by omega : i = 0 ∨ i = 1) with rfl | rfl <;> rfl)
 go_loopw [4] (fun i wr => ∃ k : Nat, k ≤ xs.length ∧ i = .int .i64 k ∧ Own wr w.heap.size 29 2 (some ⟨w.heap.size, 0, none⟩) xs.length xs.length (cE 2 encHandle (xs.take k)) ∧ Below w.heap.size w wr) (fun i _ => xs.length - (intOf i).toNat)
 case atStart => exact ⟨0, Nat.zero_le _, rfl, hst, (Below.refl _ _).alloc (Nat.le_refl _) _⟩
 case round =>
  clear hst
  obtain ⟨k, hk, rfl, hown, hbl⟩ := hrel
  by_cases hlt : k < xs.length
  ·obtain ⟨b, off, rfl, hb, hc⟩ := (h.below (hbl.mono hB)).at_ (by omega)
   have c0 : wr.cell? ⟨b, off + k * 2, none⟩ = some (Value.string ((gt xs k).1)) := hc k 0 (by omega) (by omega)
   have c1 : wr.cell? ⟨b, off + k * 2 + 1, none⟩ = some (Value.string ((gt xs k).2)) := hc k 1 (by omega) (by omega)
   clear hc
   go_wp2_with fail
   refine (toHandle_any _ _ _).mono ?_
   rintro e w1 ⟨rfl, hb1⟩
   have hown1 := Own.below hown hb1
   have d0 := hown1.cell rfl (j := k * 2) (by omega)
   have e0 := hown1.frozen rfl (k * 2)
   have d1 := hown1.cell rfl (j := k * 2 + 1) (by omega)
   have e1 := hown1.frozen rfl (k * 2 + 1)
   have s0 := (hown1).set rfl (j := k * 2) (Value.string ((gt xs k).1))
   have s1 := (s0.1).set rfl (j := k * 2 + 1) (Value.string ((gt xs k).2))
   have HS := Lib.hid s1.1
   have HG := Lib.hid ((s0.2).trans s1.2)
   have HX := Lib.hid (hbl.trans (hb1.mono hbl.size))
   have hsz := Nat.le_trans hbl.size hb1.size
   clear s0 s1 hown hown1 hbl hb1
   go_wp2_with fail
   go_roundw
   case rel => exact ⟨k + 1, by omega, by go_num, Own.congr HS.out (fun j _ => by
       rw [cE_take_step encHandle]
       exact set_cells_2 k j _ _ rfl rfl), HX.out.trans (grown_below HG.out (fun b hb => by simp [blk] at hb; omega) hsz)⟩
   case measure => simp [intOf]; omega
  ·obtain rfl : k = xs.length := by omega
   go_wp2_with fail
   go_ret
   rw [List.take_of_length_le (Nat.le_refl _)] at hown
   exact ⟨_, rfl, hown, hbl⟩
theorem eqHandleS_any (A A' : Option Addr) (cap cap' B : Nat) (xs ys : List ElHandle) (w : World) (h : RdE 2 encHandle w B A xs) (h' : RdE 2 encHandle w B A' ys) (hB : B ≤ w.heap.size) (hl : xs.length ≤ 140737488351232) (hl' : ys.length ≤ 140737488351232) :
    Calls Tryz.prog 56 #[.slice A xs.length cap, .slice A' ys.length cap'] w fun e w' => e = .returned (.bool (sameB xs ys)) ∧ Below w.heap.size w w' := by
 by_cases hlen : xs.length = ys.length
 ·have HL := Lib.hid hlen
  have hd : ((xs.length : Int) != (ys.length : Int)) = false := by rw [hlen]; simp
  have hle : xs.length ≤ ys.length := by omega
  clear hlen
  go_enter Tryz.func56, Tryz.ntmps56
  go_wp2_with fail
  go_loopw [5] (fun i wr => ∃ k : Nat, k ≤ xs.length ∧ Hid (∀ j, j < k → gt xs j = gt ys j) ∧ i = .int .i64 k ∧ Below w.heap.size w wr) (fun i _ => xs.length - (intOf i).toNat)
  case atStart => exact ⟨0, Nat.zero_le _, Lib.hid (fun j hj => absurd hj (by omega)), rfl, Below.refl _ _⟩
  case round =>
   obtain ⟨k, hk, HO, rfl, hbl⟩ := hrel
   by_cases hlt : k < xs.length
   ·obtain ⟨b, off, rfl, hb, hc⟩ := (h.below (hbl.mono hB)).at_ (by omega)
    obtain ⟨b', off', rfl, hb', hc'⟩ := (h'.below (hbl.mono hB)).at_ (by omega)
    have c0 : wr.cell? ⟨b, off + k * 2, none⟩ = some (Value.string ((gt xs k).1)) := hc k 0 (by omega) (by omega)
    have c1 : wr.cell? ⟨b, off + k * 2 + 1, none⟩ = some (Value.string ((gt xs k).2)) := hc k 1 (by omega) (by omega)
    have d0 : wr.cell? ⟨b', off' + k * 2, none⟩ = some (Value.string ((gt ys k).1)) := hc' k 0 (by omega) (by omega)
    have d1 : wr.cell? ⟨b', off' + k * 2 + 1, none⟩ = some (Value.string ((gt ys k).2)) := hc' k 1 (by omega) (by omega)
    have hlt' : k < ys.length := by omega
    clear hc hc'
    by_cases hne : gt xs k = gt ys k
    ·have hn : eqEl (α := ElHandle) ((gt xs k).1, (gt xs k).2) ((gt ys k).1, (gt ys k).2) = true := eqEl_true hne
     have HN := Lib.hid hne; clear hne
     go_wp2_with fail
     go_still_tail 8, (by kernel_rfl)
     go_wp2_with (go_at_call 54; refine (eqHandle_any _ _ _ _ _).mono ?_; rintro e w1 ⟨rfl, hb1⟩)
     go_roundw
     case rel => exact ⟨k + 1, by omega, Lib.hid (fun j hj => by
      rcases Nat.lt_succ_iff_lt_or_eq.1 hj with h1 | rfl
      ·exact HO.out j h1
      ·exact HN.out), by go_num, hbl.trans ((below_drew1 _).trans hb1 |> (·.mono hbl.size))⟩
     case measure => simp [intOf]; omega
    ·have hn : eqEl (α := ElHandle) ((gt xs k).1, (gt xs k).2) ((gt ys k).1, (gt ys k).2) = false := eqEl_false hne
     have HN := Lib.hid hne; clear hne
     go_wp2_with fail
     go_still_tail 8, (by kernel_rfl)
     go_wp2_with (go_at_call 54; refine (eqHandle_any _ _ _ _ _).mono ?_; rintro e w1 ⟨rfl, hb1⟩)
     go_ret
     exact ⟨ret_bool (sameB_at HN.out).symm, hbl.trans ((below_drew1 _).trans hb1 |> (·.mono hbl.size))⟩
   ·obtain rfl : k = xs.length := by omega
    go_wp2_with fail
    go_ret
    exact ⟨ret_bool (sameB_true HL.out HO.out).symm, hbl⟩
 ·have hd : ((xs.length : Int) != (ys.length : Int)) = true := by simp; omega
  go_enter Tryz.func56, Tryz.ntmps56
  go_wp2_with fail
  go_ret
  exact ⟨ret_bool (sameB_len hlen).symm, Below.refl _ _⟩
theorem sameHandles_any (A A' : Option Addr) (cap cap' B : Nat) (xs ys : List ElHandle) (w : World) (h : RdE 2 encHandle w B A xs) (h' : RdE 2 encHandle w B A' ys) (hB : B ≤ w.heap.size) (hl : xs.length ≤ 140737488351232) (hl' : ys.length ≤ 140737488351232) :
    Calls Tryz.prog 19 #[.slice A xs.length cap, .slice A' ys.length cap'] w fun e w' => e = .returned (.bool (sameB xs ys)) ∧ Below w.heap.size w w' := by
 by_cases hlen : xs.length = ys.length
 ·have HL := Lib.hid hlen
  have hd : ((xs.length : Int) != (ys.length : Int)) = false := by rw [hlen]; simp
  have hle : xs.length ≤ ys.length := by omega
  clear hlen
  go_enter Tryz.func19, Tryz.ntmps19
  go_wp2_with fail
  go_loopw [5] (fun i wr => ∃ k : Nat, k ≤ xs.length ∧ Hid (∀ j, j < k → gt xs j = gt ys j) ∧ i = .int .i64 k ∧ Below w.heap.size w wr) (fun i _ => xs.length - (intOf i).toNat)
  case atStart => exact ⟨0, Nat.zero_le _, Lib.hid (fun j hj => absurd hj (by omega)), rfl, Below.refl _ _⟩
  case round =>
   obtain ⟨k, hk, HO, rfl, hbl⟩ := hrel
   by_cases hlt : k < xs.length
   ·obtain ⟨b, off, rfl, hb, hc⟩ := (h.below (hbl.mono hB)).at_ (by omega)
    obtain ⟨b', off', rfl, hb', hc'⟩ := (h'.below (hbl.mono hB)).at_ (by omega)
    have c0 : wr.cell? ⟨b, off + k * 2, none⟩ = some (Value.string ((gt xs k).1)) := hc k 0 (by omega) (by omega)
    have c1 : wr.cell? ⟨b, off + k * 2 + 1, none⟩ = some (Value.string ((gt xs k).2)) := hc k 1 (by omega) (by omega)
    have d0 : wr.cell? ⟨b', off' + k * 2, none⟩ = some (Value.string ((gt ys k).1)) := hc' k 0 (by omega) (by omega)
    have d1 : wr.cell? ⟨b', off' + k * 2 + 1, none⟩ = some (Value.string ((gt ys k).2)) := hc' k 1 (by omega) (by omega)
    have hlt' : k < ys.length := by omega
    clear hc hc'
    by_cases hne : gt xs k = gt ys k
    ·have hn : eqEl (α := ElHandle) ((gt xs k).1, (gt xs k).2) ((gt ys k).1, (gt ys k).2) = true := eqEl_true hne
     have HN := Lib.hid hne; clear hne
     go_wp2_with fail
     have hneq := fun w' => neq_Handle (gt xs k).1 (gt xs k).2 (gt ys k).1 (gt ys k).2 w'
     have hgd := guard_Handle
     go_quiet (fail)
     go_wp2_with fail
     go_roundw
     case rel => exact ⟨k + 1, by omega, Lib.hid (fun j hj => by
      rcases Nat.lt_succ_iff_lt_or_eq.1 hj with h1 | rfl
      ·exact HO.out j h1
      ·exact HN.out), by go_num, hbl.trans (below_drewN (Below.refl _ _) _)⟩
     case measure => simp [intOf]; omega
    ·have hn : eqEl (α := ElHandle) ((gt xs k).1, (gt xs k).2) ((gt ys k).1, (gt ys k).2) = false := eqEl_false hne
     have HN := Lib.hid hne; clear hne
     go_wp2_with fail
     have hneq := fun w' => neq_Handle (gt xs k).1 (gt xs k).2 (gt ys k).1 (gt ys k).2 w'
     have hgd := guard_Handle
     go_quiet (fail)
     go_wp2_with fail
     go_ret
     exact ⟨ret_bool (sameB_at HN.out).symm, hbl.trans (below_drewN (Below.refl _ _) _)⟩
   ·obtain rfl : k = xs.length := by omega
    go_wp2_with fail
    go_ret
    exact ⟨ret_bool (sameB_true HL.out HO.out).symm, hbl⟩
 ·have hd : ((xs.length : Int) != (ys.length : Int)) = true := by simp; omega
  go_enter Tryz.func19, Tryz.ntmps19
  go_wp2_with fail
  go_ret
  exact ⟨ret_bool (sameB_len hlen).symm, Below.refl _ _⟩
def mkHandle (k : Int) (j : Nat) : Value :=
 match j % 2 with
 | 0 => Value.string (mtext (k + j))
 | _ => Value.string (mtext (k + j))
theorem mkHandle_0 (k : Int) (j : Nat) : mkHandle k (j * 2) = Value.string (mtext (k + (j : Int) * 2)) := by
 unfold mkHandle
 rw [show (j * 2) % 2 = 0 by omega, show (k + ((j * 2 : Nat) : Int)) = k + (j : Int) * 2 by omega]
 rfl
theorem mkHandle_1 (k : Int) (j : Nat) : mkHandle k (j * 2 + 1) = Value.string (mtext (k + (j : Int) * 2 + 1)) := by
 unfold mkHandle
 rw [show (j * 2 + 1) % 2 = 1 by omega, show (k + ((j * 2 + 1 : Nat) : Int)) = k + (j : Int) * 2 + 1 by omega]
 rfl
theorem markHandleS_any (base : Nat) (A : Option Addr) (n cap : Nat) (f : Nat → Value) (k : Int) (w : World) (h : Own w base 29 2 A n cap f) (hn : n ≤ 1048576) (hk0 : 0 ≤ k) (hk : k ≤ 33554432) :
    Calls Tryz.prog 58 #[.slice A n cap, .int .i64 k] w fun e w' => e = .returned (.int .i64 (k + (n : Int) * 2)) ∧ Own w' base 29 2 A n cap (mkHandle k) ∧ w.grownBy w' (blk A) := by
 go_enter Tryz.func58, Tryz.ntmps58
 go_wp2_with fail
 go_loopw [1, 5] (fun q i wr => ∃ j : Nat, j ≤ n ∧ q = .int .i64 (k + (j : Int) * 2) ∧ i = .int .i64 j ∧ Own wr base 29 2 A n cap (fun x => if x < j * 2 then mkHandle k x else f x) ∧ w.grownBy wr (blk A)) (fun _ i _ => n - (intOf i).toNat)
 case atStart => exact ⟨0, Nat.zero_le _, by simp, rfl, by simpa using h, World.grownBy.refl _ _⟩
 case round =>
  obtain ⟨j, hj, rfl, rfl, hown, hgr⟩ := hrel
  by_cases hlt : j < n
  ·rcases hown.shape with ⟨_, h0, _⟩ | ⟨b, hA, hb, hbs, _⟩
   ·omega
   ·subst hA
    go_wp2_with fail
    refine (markText_any _ _ (by omega) (by omega)).mono ?_
    rintro e v0 ⟨rfl, hb0⟩
    have o0 := Own.below (hown) hb0
    have g0 := keepG (hgr) hb0 (hgr).size
    have c0_0 := o0.cell rfl (j := j * 2) (by omega)
    have f0_0 := o0.frozen rfl (j * 2)
    have c0_1 := o0.cell rfl (j := j * 2 + 1) (by omega)
    have f0_1 := o0.frozen rfl (j * 2 + 1)
    have s0 := (o0).set rfl (j := j * 2) (Value.string (mtext (k + (j : Int) * 2)))
    have HS0 := Lib.hid (s0.1)
    have HG0 := Lib.hid ((g0).trans s0.2)
    clear s0 o0 g0 hown hgr
    go_wp2_with fail
    refine (markText_any _ _ (by omega) (by omega)).mono ?_
    rintro e v1 ⟨rfl, hb1⟩
    have o1 := Own.below (HS0.out) hb1
    have g1 := keepG (HG0.out) hb1 (HG0.out).size
    have c1_1 := o1.cell rfl (j := j * 2 + 1) (by omega)
    have f1_1 := o1.frozen rfl (j * 2 + 1)
    have s1 := (o1).set rfl (j := j * 2 + 1) (Value.string (mtext (k + (j : Int) * 2 + 1)))
    have HS1 := Lib.hid (s1.1)
    have HG1 := Lib.hid ((g1).trans s1.2)
    clear s1 o1 g1
    have HS := HS1
    have HG := HG1
    clear HS1 HG1
    go_wp2_with fail
    go_roundw
    case rel => exact ⟨j + 1, by omega, by go_num, by go_num, Own.congr HS.out (fun x _ => mark_cells_2 j x _ _ (mkHandle_0 k j) (mkHandle_1 k j)), HG.out⟩
    case measure => simp [intOf]; omega
  ·obtain rfl : j = n := by omega
   go_wp2_with fail
   go_ret
   exact ⟨rfl, Own.congr hown (fun x hx => by rw [if_pos hx]), hgr⟩
theorem heldHandleS_any (B : Nat) (A : Option Addr) (n cap : Nat) (k : Int) (w : World) (h : Rd w B 2 A n (mkHandle k)) (hB : B ≤ w.heap.size) (hn : n ≤ 1048576) (hk0 : 0 ≤ k) (hk : k ≤ 33554432) :
    Calls Tryz.prog 60 #[.slice A n cap, .int .i64 k] w fun e w' => e = .returned (.int .i64 (k + (n : Int) * 2)) ∧ Below w.heap.size w w' := by
 go_enter Tryz.func60, Tryz.ntmps60
 go_wp2_with fail
 go_loopw [1, 5] (fun q i wr => ∃ j : Nat, j ≤ n ∧ q = .int .i64 (k + (j : Int) * 2) ∧ i = .int .i64 j ∧ Below w.heap.size w wr) (fun _ i _ => n - (intOf i).toNat)
 case atStart => exact ⟨0, Nat.zero_le _, by simp, rfl, Below.refl _ _⟩
 case round =>
  obtain ⟨j, hj, rfl, rfl, hbl⟩ := hrel
  by_cases hlt : j < n
  ·obtain ⟨b, off, rfl, hb, hc⟩ := (h.below (hbl.mono hB)) (by omega)
   have c0 := hc (j * 2) (by omega)
   rw [mkHandle_0] at c0
   have c1 := hc (j * 2 + 1) (by omega)
   rw [mkHandle_1] at c1
   rw [← Nat.add_assoc] at c1
   have hbs : b < wr.heap.size := by have := hbl.size; omega
   clear hc
   go_wp2_with fail
   have dc0_0 : (wr.drew).cell? ⟨b, off + j * 2, none⟩ = some (Value.string (mtext (k + (j : Int) * 2))) := c0
   have dc0_1 : (wr.drew).cell? ⟨b, off + j * 2 + 1, none⟩ = some (Value.string (mtext (k + (j : Int) * 2 + 1))) := c1
   have hbd0 : b < (wr.drew).heap.size := by assumption
   have hld0 := hbl.drew
   have hlz0 : w.heap.size ≤ (wr.drew).heap.size := hld0.size
   clear c0 c1
   go_region_held3 (fun w' => w'.cell? ⟨b, off + j * 2, none⟩ = some (Value.string (mtext (k + (j : Int) * 2)))) (first | exact dc0_0 | exact n0_0 | go_keep) (first | (go_at_call 74; refine (markText_any _ _ (by omega) (by omega)).mono ?_; rintro e v0 ⟨rfl, hb0⟩; have n0_0 := (hb0.cell hbd0).trans dc0_0; have n0_1 := (hb0.cell hbd0).trans dc0_1; have hbs0 : b < v0.heap.size := Nat.lt_of_lt_of_le hbd0 hb0.size; have hl0 := hld0.trans (hb0.mono hlz0)))
   go_wp2_with fail
   have dc1_1 : (v0.drew).cell? ⟨b, off + j * 2 + 1, none⟩ = some (Value.string (mtext (k + (j : Int) * 2 + 1))) := n0_1
   have hbd1 : b < (v0.drew).heap.size := by assumption
   have hld1 := hl0.drew
   have hlz1 : w.heap.size ≤ (v0.drew).heap.size := hld1.size
   clear n0_1
   go_region_held3 (fun w' => w'.cell? ⟨b, off + j * 2 + 1, none⟩ = some (Value.string (mtext (k + (j : Int) * 2 + 1)))) (first | exact dc1_1 | exact n1_1 | go_keep) (first | (go_at_call 74; refine (markText_any _ _ (by omega) (by omega)).mono ?_; rintro e v1 ⟨rfl, hb1⟩; have n1_1 := (hb1.cell hbd1).trans dc1_1; have hbs1 : b < v1.heap.size := Nat.lt_of_lt_of_le hbd1 hb1.size; have hl1 := hld1.trans (hb1.mono hlz1)))
   go_wp2_with fail
   have hbl := hl1
   go_roundw
   case rel => exact ⟨j + 1, by omega, by go_num, by go_num, hbl⟩
   case measure => simp [intOf]; omega
  ·obtain rfl : j = n := by omega
   go_wp2_with fail
   go_ret
   exact ⟨rfl, hbl⟩
def byHandle (x : ElHandle) : Nat := x.1.size + x.2.size
def totHandle (xs : List ElHandle) : Nat := xs.length + (xs.map byHandle).sum
def byToHandle (xs : List ElHandle) (k : Nat) : Nat := ((xs.take k).map byHandle).sum
theorem sum_leHandle (xs : List ElHandle) (k : Nat) : byToHandle xs k ≤ (xs.map byHandle).sum := by
 unfold byToHandle
 conv => rhs; rw [← List.take_append_drop k xs, List.map_append, List.sum_append]
 omega
theorem sum_stepHandle {xs : List ElHandle} {k : Nat} (h : k < xs.length) : byToHandle xs (k + 1) = byToHandle xs k + byHandle (gt xs k) := by
 unfold byToHandle
 rw [take_snoc h, List.map_append, List.sum_append]; simp
theorem byTo_zeroHandle (xs : List ElHandle) : byToHandle xs 0 = 0 := rfl
theorem byTo_allHandle (xs : List ElHandle) : byToHandle xs xs.length = (xs.map byHandle).sum := by unfold byToHandle; rw [List.take_length]
theorem szHandle_any (a : ByteArray) (b : ByteArray) (left : Int) (w : World) (h0 : 0 ≤ left) (h1 : left ≤ 1048576) (hs0 : a.size ≤ maxLen) (hs1 : b.size ≤ maxLen) :
    Calls Tryz.prog 30 #[.agg #[.string a, .string b], .int .i64 left] w fun e w' => e = .returned (.int .i64 (szL left (a.size + b.size))) ∧ Below w.heap.size w w' := by
 unfold maxLen at hs0 hs1
 by_cases hz0 : left - (a.size : Int) < 0
 ·have hd0 : decide (left - (a.size : Int) < 0) = true := by simp [hz0]
  have HZ := Lib.hid (szL_no (left := left) (n := a.size + b.size) (by omega))
  go_enter Tryz.func30, Tryz.ntmps30
  go_wp2_with fail
  go_ret
  exact ⟨ret_int HZ.out.symm, (Below.refl _ _).alloc (Nat.le_refl _) _⟩
 ·have hd0 : decide (left - (a.size : Int) < 0) = false := by simp; omega
  by_cases hz1 : left - (a.size : Int) - (b.size : Int) < 0
  ·have hd1 : decide (left - (a.size : Int) - (b.size : Int) < 0) = true := by simp [hz1]
   have HZ := Lib.hid (szL_no (left := left) (n := a.size + b.size) (by omega))
   go_enter Tryz.func30, Tryz.ntmps30
   go_wp2_with fail
   go_ret
   exact ⟨ret_int HZ.out.symm, (Below.refl _ _).alloc (Nat.le_refl _) _⟩
  ·have hd1 : decide (left - (a.size : Int) - (b.size : Int) < 0) = false := by simp; omega
   have HZ := Lib.hid (show left - (a.size : Int) - (b.size : Int) = szL left (a.size + b.size) by have := szL_yes (left := left) (n := a.size + b.size) (by omega); omega)
   go_enter Tryz.func30, Tryz.ntmps30
   go_wp2_with fail
   go_ret
   exact ⟨ret_int HZ.out, (Below.refl _ _).alloc (Nat.le_refl _) _⟩
set_option maxHeartbeats 800000 in
theorem szHandleS_any (A : Option Addr) (cap B : Nat) (xs : List ElHandle) (left : Int) (w : World) (h : RdE 2 encHandle w B A xs) (hB : B ≤ w.heap.size) (hl : xs.length ≤ 9223372036854775807) (hsz : ∀ k, k < xs.length → (gt xs k).1.size ≤ maxLen ∧ (gt xs k).2.size ≤ maxLen) (h0 : 0 ≤ left) (h1 : left ≤ 1048576) :
    Calls Tryz.prog 32 #[.slice A xs.length cap, .int .i64 left] w fun e w' => e = .returned (.int .i64 (szL left (totHandle xs))) ∧ Below w.heap.size w w' := by
 by_cases hlt : left - (xs.length : Int) < 0
 ·have hd : decide (left - (xs.length : Int) < 0) = true := by simp [hlt]
  have HZ := Lib.hid (szL_no (left := left) (n := totHandle xs) (by unfold totHandle; omega))
  go_enter Tryz.func32, Tryz.ntmps32
  go_wp2_with fail
  go_ret
  exact ⟨ret_int HZ.out.symm, Below.refl _ _⟩
 ·have hd : decide (left - (xs.length : Int) < 0) = false := by simp; omega
  have HD := Lib.hid hsz
  clear hsz
  go_enter Tryz.func32, Tryz.ntmps32
  go_wp2_with fail
  go_loopw [1, 5] (fun q i wr => ∃ k : Nat, k ≤ xs.length ∧ i = .int .i64 k ∧ q = .int .i64 (left - xs.length - byToHandle xs k) ∧ 0 ≤ left - xs.length - (byToHandle xs k : Nat) ∧ Below w.heap.size w wr) (fun _ i _ => xs.length - (intOf i).toNat)
  case atStart => exact ⟨0, Nat.zero_le _, rfl, by rw [byTo_zeroHandle]; simp, by rw [byTo_zeroHandle]; simp; omega, Below.refl _ _⟩
  case round =>
   obtain ⟨k, hk, rfl, rfl, hq, hbl⟩ := hrel
   have hle := sum_leHandle xs k
   by_cases hlt2 : k < xs.length
   ·have hst := sum_stepHandle hlt2
    have hle2 := sum_leHandle xs (k + 1)
    obtain ⟨z0, z1⟩ := HD.out k hlt2
    obtain ⟨b, off, rfl, hb, hc⟩ := (h.below (hbl.mono hB)).at_ (by omega)
    have c0 : wr.cell? ⟨b, off + k * 2, none⟩ = some (Value.string ((gt xs k).1)) := hc k 0 (by omega) (by omega)
    have c1 : wr.cell? ⟨b, off + k * 2 + 1, none⟩ = some (Value.string ((gt xs k).2)) := hc k 1 (by omega) (by omega)
    clear hc
    have hby : byHandle (gt xs k) = (gt xs k).1.size + (gt xs k).2.size := rfl
    by_cases hneg : left - xs.length - byToHandle xs k - (byHandle (gt xs k) : Int) < 0
    ·have HZ := Lib.hid (szL_no (left := left) (n := totHandle xs) (by unfold totHandle; omega))
     have HN := Lib.hid (szL_no hneg)
     rw [hby] at HN
     have HC : Hid (∀ W, Calls Tryz.prog 30 #[.agg #[.string (gt xs k).1, .string (gt xs k).2], .int .i64 (left - xs.length - byToHandle xs k)] W fun e w' => e = .returned (.int .i64 (-1)) ∧ Below W.heap.size W w') := Lib.hid (fun W => by
      have := szHandle_any (gt xs k).1 (gt xs k).2 (left - xs.length - byToHandle xs k) W (by omega) (by omega) z0 z1
      rw [HN.out] at this
      exact this)
     clear hst hby
     go_wp2_with (go_at_call 30; refine (HC.out _).mono ?_; rintro e w1 ⟨rfl, hb1⟩)
     go_ret
     exact ⟨ret_int HZ.out.symm, hbl.trans (hb1.mono hbl.size)⟩
    ·have HN := Lib.hid (szL_yes (left := left - xs.length - byToHandle xs k) (n := byHandle (gt xs k)) (by omega))
     rw [hby] at HN
     have HST := Lib.hid hst
     have hd3 : decide (left - xs.length - byToHandle xs k - ((((gt xs k).1.size + (gt xs k).2.size : Nat)) : Int) < 0) = false := by simp; omega
     rw [hby] at hneg
     have HC : Hid (∀ W, Calls Tryz.prog 30 #[.agg #[.string (gt xs k).1, .string (gt xs k).2], .int .i64 (left - xs.length - byToHandle xs k)] W fun e w' => e = .returned (.int .i64 (left - xs.length - byToHandle xs k - ((((gt xs k).1.size + (gt xs k).2.size : Nat)) : Int))) ∧ Below W.heap.size W w') := Lib.hid (fun W => by
      have := szHandle_any (gt xs k).1 (gt xs k).2 (left - xs.length - byToHandle xs k) W (by omega) (by omega) z0 z1
      rw [HN.out] at this
      exact this)
     clear hst hby
     go_wp2_with (go_at_call 30; refine (HC.out _).mono ?_; rintro e w1 ⟨rfl, hb1⟩)
     go_roundw
     case rel => exact ⟨k + 1, by omega, by go_num, by rw [HST.out]; unfold byHandle; go_num, by rw [HST.out]; unfold byHandle; omega, hbl.trans (hb1.mono hbl.size)⟩
     case measure => simp [intOf]; omega
   ·obtain rfl : k = xs.length := by omega
    rw [byTo_allHandle] at hq ⊢
    have HZ := Lib.hid (show left - xs.length - ((xs.map byHandle).sum : Nat) = szL left (totHandle xs) by have := szL_yes (left := left) (n := totHandle xs) (by unfold totHandle; omega); unfold totHandle at this ⊢; omega)
    go_wp2_with fail
    go_ret
    exact ⟨ret_int HZ.out, hbl⟩end Go.Proofs.YtfnmlffpnmmcdaaGreatDoor
namespace Go.Proofs.YtfnmlffpnmmcdaaGreatDoor
set_option maxRecDepth 100000
def hvB (h : ElHandle) : Bool := wordB h.1 && wordB h.2
end Go.Proofs.YtfnmlffpnmmcdaaGreatDoor
namespace Go.Proofs.YtfnmlffpnmmcdaaGreatDoor
set_option maxRecDepth 100000
def ltS (a b : ByteArray) : Bool := Op.bytesLess a.toList b.toList
theorem bl_irrefl : ∀ l : List UInt8, Op.bytesLess l l = false
 | [] => rfl
 | x :: l => by rw [Op.bytesLess, bl_irrefl l]; simp
theorem bl_trans : ∀ {a b c : List UInt8}, Op.bytesLess a b = true → Op.bytesLess b c = true → Op.bytesLess a c = true
 | _, [], _, h, _ => by simp [Op.bytesLess] at h
 | _, _ :: _, [], _, h => by simp [Op.bytesLess] at h
 | [], _ :: _, _ :: _, _, _ => rfl
 | x :: a, y :: b, z :: c, h, k => by
  simp only [Op.bytesLess, Bool.or_eq_true, Bool.and_eq_true, decide_eq_true_eq, beq_iff_eq] at h k ⊢
  rcases h with h | ⟨rfl, h⟩
  ·rcases k with k | ⟨rfl, k⟩
   ·exact .inl (UInt8.lt_trans h k)
   ·exact .inl h
  ·rcases k with k | ⟨rfl, k⟩
   ·exact .inl k
   ·exact .inr ⟨rfl, bl_trans h k⟩
theorem ltS_irrefl (a : ByteArray) : ltS a a = false := bl_irrefl _
theorem ltS_trans {a b c : ByteArray} (h : ltS a b = true) (k : ltS b c = true) : ltS a c = true := bl_trans h k
def BefH (p q : ElHandle) : Prop := ltS p.2 q.2 = true ∨ (p.2 = q.2 ∧ ltS p.1 q.1 = true)
instance (p q : ElHandle) : Decidable (BefH p q) := inferInstanceAs (Decidable (_ ∨ _))
def hbB (p q : ElHandle) : Bool := decide (BefH p q)
theorem hbB_true {p q : ElHandle} (h : BefH p q) : hbB p q = true := decide_eq_true h
theorem hbB_false {p q : ElHandle} (h : ¬ BefH p q) : hbB p q = false := decide_eq_false h
theorem BefH.of {p q : ElHandle} (h : hbB p q = true) : BefH p q := of_decide_eq_true h
theorem BefH.trans {p q r : ElHandle} (h : BefH p q) (k : BefH q r) : BefH p r := by
 unfold BefH at *
 rcases h with h | ⟨h1, h2⟩
 ·rcases k with k | ⟨k1, k2⟩
  ·exact .inl (ltS_trans h k)
  ·exact .inl (by rw [← k1]; exact h)
 ·rcases k with k | ⟨k1, k2⟩
  ·exact .inl (by rw [h1]; exact k)
  ·exact .inr ⟨h1.trans k1, ltS_trans h2 k2⟩
theorem BefH.irrefl {p : ElHandle} : ¬ BefH p p := by unfold BefH; rw [ltS_irrefl, ltS_irrefl]; simp
theorem hbB_ne {p q : ElHandle} (h : seq p.2 q.2 = false) : hbB p q = ltS p.2 q.2 := by
 have hn : p.2 ≠ q.2 := fun e => by rw [e] at h; simp [seq] at h
 cases hl : ltS p.2 q.2
 ·exact hbB_false (fun k => by rcases k with k | ⟨k, _⟩; (rw [hl] at k; cases k); exact hn k)
 ·exact hbB_true (.inl hl)
theorem hbB_eq {p q : ElHandle} (h : seq p.2 q.2 = true) : hbB p q = ltS p.1 q.1 := by
 have he : p.2 = q.2 := by simpa [seq] using h
 cases hl : ltS p.1 q.1
 ·exact hbB_false (fun k => by
     rcases k with k | ⟨_, k⟩
     ·rw [he, ltS_irrefl] at k; cases k
     ·rw [hl] at k; cases k)
 ·exact hbB_true (.inr ⟨he, hl⟩)
def OkFh (p : ElHandle) : Prop := hvB p = true
def OkFAt (ps : List ElHandle) (k : Nat) : Prop := OkFh (gt ps k) ∧ (0 < k → BefH (gt ps (k - 1)) (gt ps k))
instance (p : ElHandle) : Decidable (OkFh p) := inferInstanceAs (Decidable (_ = _))
instance (ps : List ElHandle) (k : Nat) : Decidable (OkFAt ps k) := inferInstanceAs (Decidable (_ ∧ (_ → _)))
def okFUp (ps : List ElHandle) (k : Nat) : Prop := ∀ j, j < k → OkFAt ps j
instance (ps : List ElHandle) (k : Nat) : Decidable (okFUp ps k) := Nat.decidableBallLT k (fun j _ => OkFAt ps j)
def Fv (ps : List ElHandle) : Prop := ps.length ≤ 10 ∧ okFUp ps ps.length
instance (ps : List ElHandle) : Decidable (Fv ps) := inferInstanceAs (Decidable (_ ∧ _))
def fvB (ps : List ElHandle) : Bool := decide (Fv ps)
theorem okFUp_succ {ps : List ElHandle} {k : Nat} (h : okFUp ps k) (h1 : OkFAt ps k) : okFUp ps (k + 1) := by
 intro j hj
 rcases Nat.lt_succ_iff_lt_or_eq.1 hj with h' | rfl
 ·exact h j h'
 ·exact h1
theorem fvB_true {ps : List ElHandle} (hl : ps.length ≤ 10) (h : okFUp ps ps.length) : fvB ps = true := decide_eq_true ⟨hl, h⟩
theorem fvB_long {ps : List ElHandle} (hl : 10 < ps.length) : fvB ps = false := decide_eq_false fun h => by have := h.1; omega
theorem fvB_bad {ps : List ElHandle} {k : Nat} (hk : k < ps.length) (h : ¬ OkFAt ps k) : fvB ps = false := decide_eq_false fun hv => h (hv.2 k hk)
theorem Fv.of {ps : List ElHandle} (h : fvB ps = true) : Fv ps := of_decide_eq_true h
theorem fvB_all {ps : List ElHandle} (h : okFUp ps ps.length) : decide ((ps.length : Int) ≤ 10) = fvB ps :=
 decide_eq_decide.2 ⟨fun hh => ⟨by omega, h⟩, fun hh => by have := hh.1; omega⟩
theorem Fv.sorted {ps : List ElHandle} (h : Fv ps) : ∀ j i, i < j → j < ps.length → BefH (gt ps i) (gt ps j) := by
 intro j
 induction j with
 | zero => intro i hi; omega
 | succ j ih =>
  intro i hi hj
  have h1 := (h.2 (j + 1) hj).2 (by omega)
  rw [Nat.add_sub_cancel] at h1
  rcases Nat.lt_succ_iff_lt_or_eq.1 hi with h2 | rfl
  ·exact (ih i h2 (by omega)).trans h1
  ·exact h1
theorem Fv.mk {ps : List ElHandle} (hl : ps.length ≤ 10) (h1 : ∀ p ∈ ps, OkFh p) (h2 : ∀ i j, i < j → j < ps.length → BefH (gt ps i) (gt ps j)) : Fv ps :=
 ⟨hl, fun j hj => ⟨h1 _ (gt_mem hj), fun h0 => h2 _ _ (by omega) hj⟩⟩
theorem Fv.ok {ps : List ElHandle} (h : Fv ps) {p : ElHandle} (hp : p ∈ ps) : OkFh p := by
 obtain ⟨k, hk, rfl⟩ := mem_gt hp
 exact (h.2 k hk).1
def posF (ps : List ElHandle) (p : ElHandle) : Nat := (ps.takeWhile (fun q => hbB q p)).length
theorem posF_eq : ∀ (ps : List ElHandle) (p : ElHandle) (k : Nat), k ≤ ps.length → (∀ j, j < k → hbB (gt ps j) p = true) → (k < ps.length → hbB (gt ps k) p = false) → posF ps p = k := by
 intro ps p
 induction ps with
 | nil => intro k h _ _; simp at h; subst h; rfl
 | cons q qs ih =>
  intro k hk h1 h2
  cases k with
  | zero =>
   have := h2 (by simp)
   rw [gt_head] at this
   simp [posF, this]
  | succ k =>
   have h0 := h1 0 (by omega)
   rw [gt_head] at h0
   have := ih k (by simpa using hk) (fun j hj => by have := h1 (j + 1) (by omega); rwa [gt_cons] at this) (fun hlt => by have := h2 (by simpa using hlt); rwa [gt_cons] at this)
   unfold posF at this ⊢
   rw [List.takeWhile_cons, if_pos h0, List.length_cons, this]
theorem posF_le (ps : List ElHandle) (p : ElHandle) : posF ps p ≤ ps.length := by unfold posF; exact (List.takeWhile_prefix _).length_le
def insF (ps : List ElHandle) (p : ElHandle) : List ElHandle := ps.take (posF ps p) ++ [p] ++ ps.drop (posF ps p)
theorem insF_len (ps : List ElHandle) (p : ElHandle) : (insF ps p).length = ps.length + 1 := by
 have := posF_le ps p
 simp only [insF, List.length_append, List.length_take, List.length_drop, List.length_cons, List.length_nil]
 omega
def folOf (ps : List ElHandle) (p : ElHandle) : List ElHandle := if fvB ps = true then (if fvB (insF ps p) = true then insF ps p else ps) else []
def folOk (ps : List ElHandle) (p : ElHandle) : Bool := fvB ps && fvB (insF ps p)
theorem folOf_yes {ps : List ElHandle} {p : ElHandle} (h : fvB ps = true) (k : fvB (insF ps p) = true) : folOf ps p = insF ps p ∧ folOk ps p = true := ⟨by rw [folOf, if_pos h, if_pos k], by rw [folOk, h, k]; rfl⟩
theorem folOf_no {ps : List ElHandle} {p : ElHandle} (h : fvB ps = true) (k : fvB (insF ps p) = false) : folOf ps p = ps ∧ folOk ps p = false := ⟨by rw [folOf, if_pos h, if_neg (by rw [k]; simp)], by rw [folOk, h, k]; rfl⟩
theorem folOf_bad {ps : List ElHandle} {p : ElHandle} (h : fvB ps = false) : folOf ps p = [] ∧ folOk ps p = false := ⟨by rw [folOf, if_neg (by rw [h]; simp)], by rw [folOk, h]; rfl⟩
theorem insF_sz {ps : List ElHandle} (h : ∀ k, k < ps.length → (gt ps k).1.size ≤ maxLen ∧ (gt ps k).2.size ≤ maxLen) {p : ElHandle} (hp : p.1.size ≤ maxLen ∧ p.2.size ≤ maxLen) : ∀ k, k < (insF ps p).length → (gt (insF ps p) k).1.size ≤ maxLen ∧ (gt (insF ps p) k).2.size ≤ maxLen := fun k hk => by
 have hm := gt_mem hk
 unfold insF at hm
 simp only [List.mem_append, List.mem_singleton] at hm
 rcases hm with (hm | hm) | hm
 ·obtain ⟨j, hj, e⟩ := mem_gt (List.mem_of_mem_take hm); unfold insF; rw [← e]; exact h j hj
 ·unfold insF; rw [hm]; exact hp
 ·obtain ⟨j, hj, e⟩ := mem_gt (List.mem_of_mem_drop hm); unfold insF; rw [← e]; exact h j hj
end Go.Proofs.YtfnmlffpnmmcdaaGreatDoor
namespace Go.Proofs.YtfnmlffpnmmcdaaGreatDoor
set_option maxRecDepth 100000
theorem fv_nil : fvB [] = true := fvB_true (by simp) (fun j hj => by simp at hj)
theorem folOf_valid {fs : List ElHandle} {h : ElHandle} (hv : fvB fs = true) : fvB (folOf fs h) = true := by
 unfold folOf
 rw [if_pos hv]
 split
 ·next k => exact k
 ·exact hv
theorem folOf_cases (fs : List ElHandle) (h : ElHandle) : folOf fs h = [] ∨ folOf fs h = fs ∨ folOf fs h = insF fs h := by
 unfold folOf
 split
 ·split
  ·exact .inr (.inr rfl)
  ·exact .inr (.inl rfl)
 ·exact .inl rfl
theorem insF_mem {fs : List ElHandle} {h x : ElHandle} (hx : x ∈ insF fs h) : x ∈ fs ∨ x = h := by
 unfold insF at hx
 simp only [List.mem_append, List.mem_singleton] at hx
 rcases hx with (hx | hx) | hx
 ·exact .inl (List.mem_of_mem_take hx)
 ·exact .inr hx
 ·exact .inl (List.mem_of_mem_drop hx)
theorem folOf_mem {fs : List ElHandle} {h x : ElHandle} (hx : x ∈ folOf fs h) : x ∈ fs ∨ x = h := by
 rcases folOf_cases fs h with e | e | e
 ·rw [e] at hx; cases hx
 ·rw [e] at hx; exact .inl hx
 ·rw [e] at hx; exact insF_mem hx
theorem folOf_len1 (fs : List ElHandle) (h : ElHandle) : (folOf fs h).length ≤ fs.length + 1 := by
 rcases folOf_cases fs h with e | e | e
 ·rw [e]; simp
 ·rw [e]; omega
 ·rw [e, insF_len]; omega
end Go.Proofs.YtfnmlffpnmmcdaaGreatDoor
namespace Go.Proofs.YtfnmlffpnmmcdaaGreatDoor
set_option maxRecDepth 100000
def OkI (xs : List ElItem) (k : Nat) : Prop := ivB (gt xs k) = true ∧ ∀ j, j < k → (gt xs j).1 ≠ (gt xs k).1
instance (xs : List ElItem) (k : Nat) : Decidable (OkI xs k) := inferInstanceAs (Decidable (_ ∧ ∀ j, j < k → (gt xs j).1 ≠ (gt xs k).1))
def fdB (xs : List ElItem) : Bool := vdB OkI 8 xs
theorem fd_len {xs : List ElItem} (h : fdB xs = true) : xs.length ≤ 8 := (Vd.of h).1
theorem fd_iv {xs : List ElItem} (h : fdB xs = true) {k : Nat} (hk : k < xs.length) : ivB (gt xs k) = true := ((Vd.of h).2 k hk).1
def isI (key : ByteArray) (x : ElItem) : Bool := seq x.1 key
def itemIx (xs : List ElItem) (key : ByteArray) : Int := ix (isI key) xs
end Go.Proofs.YtfnmlffpnmmcdaaGreatDoor
namespace Go.Proofs.YtfnmlffpnmmcdaaGreatDoor
set_option maxRecDepth 100000
def htOf (h : ElHandle) : ByteArray := if hvB h = true then (({ data := #[64] } : ByteArray) ++ h.1) ++ { data := #[64] } ++ h.2 else { data := #[] }
theorem htOf_yes {h : ElHandle} (hv : hvB h = true) : htOf h = (({ data := #[64] } : ByteArray) ++ h.1) ++ { data := #[64] } ++ h.2 := if_pos hv
theorem htOf_no {h : ElHandle} (hv : hvB h = false) : htOf h = { data := #[] } := if_neg (by rw [hv]; simp)
theorem hv_sizes {h : ElHandle} (hv : hvB h = true) : (1 ≤ h.1.size ∧ h.1.size ≤ 8) ∧ 1 ≤ h.2.size ∧ h.2.size ≤ 8 := by
 unfold hvB at hv
 rw [Bool.and_eq_true] at hv
 exact ⟨⟨(Word.of hv.1).1, (Word.of hv.1).2.1⟩, (Word.of hv.2).1, (Word.of hv.2).2.1⟩
theorem htOf_size (h : ElHandle) : (htOf h).size ≤ 18 := by
 unfold htOf
 split
 ·next hv =>
  obtain ⟨⟨_, a⟩, _, b⟩ := hv_sizes hv
  rw [ByteArray.size_append, ByteArray.size_append, ByteArray.size_append]
  show 1 + h.1.size + 1 + h.2.size ≤ 18
  omega
 ·exact Nat.zero_le _
def rhK (s : ByteArray) : Nat := fb s 64 1
def rhH (s : ByteArray) : ElHandle := (s.extract 1 (rhK s), s.extract (rhK s + 1) s.size)
def rhOk (s : ByteArray) : Bool := decide (bb s 0 = 64 ∧ rhK s < s.size) && hvB (rhH s)
def rhOf (s : ByteArray) : ElHandle := if rhOk s = true then rhH s else ({ data := #[] }, { data := #[] })
theorem rhOk_no1 {s : ByteArray} (h : bb s 0 ≠ 64) : rhOk s = false := by unfold rhOk; rw [decide_eq_false (fun q => h q.1)]; rfl
theorem rhOk_no2 {s : ByteArray} (h : s.size ≤ rhK s) : rhOk s = false := by unfold rhOk; rw [decide_eq_false (fun q => by have := q.2; omega)]; rfl
theorem rhOk_no3 {s : ByteArray} (h : hvB (rhH s) = false) : rhOk s = false := by unfold rhOk; rw [h]; simp
theorem rhOk_yes {s : ByteArray} (h1 : bb s 0 = 64) (h2 : rhK s < s.size) (h3 : hvB (rhH s) = true) : rhOk s = true := by unfold rhOk; rw [decide_eq_true ⟨h1, h2⟩, h3]; rfl
theorem rhOf_no {s : ByteArray} (h : rhOk s = false) : rhOf s = ({ data := #[] }, { data := #[] }) := if_neg (by rw [h]; simp)
theorem rhOf_yes {s : ByteArray} (h : rhOk s = true) : rhOf s = rhH s := if_pos h
theorem rhOk_of {s : ByteArray} (h : rhOk s = true) : bb s 0 = 64 ∧ rhK s < s.size ∧ hvB (rhH s) = true := by
 unfold rhOk at h
 rw [Bool.and_eq_true, decide_eq_true_eq] at h
 exact ⟨h.1.1, h.1.2, h.2⟩
theorem rhOf_hv {s : ByteArray} (h : rhOk s = true) : hvB (rhOf s) = true := by rw [rhOf_yes h]; exact (rhOk_of h).2.2
theorem size_pos_of {s : ByteArray} {k : Nat} {c : Int} (h : bb s k = c) (hc : c ≠ 0) : k < s.size := by
 rcases Nat.lt_or_ge k s.size with q | q
 ·exact q
 ·rw [bb_out q] at h; omega
theorem hp_one (s : ByteArray) (c : UInt8) (hc : c.toNat ≠ 0) : Lib.hasPrefix s.data.toList (ByteArray.mk #[c]).data.toList = decide (bb s 0 = (c.toNat : Int)) := by
 rw [hasPrefix_iff]
 refine decide_eq_decide.2 ⟨fun ⟨h1, h2⟩ => ?_, fun h => ?_⟩
 ·have hz : (ByteArray.mk #[c]).size = 1 := rfl
  rw [hz] at h1 h2
  have h3 : bb (s.extract 0 1) 0 = (c.toNat : Int) := by rw [h2]; rfl
  rwa [bb_extract h1 (by omega)] at h3
 ·have h1 := size_pos_of h (by omega)
  exact ⟨h1, ext_byte h1 h⟩
theorem ht_rh {s : ByteArray} (h1 : bb s 0 = 64) (h2 : rhK s < s.size) (h3 : hvB (rhH s) = true) : htOf (rhH s) = s := by
 have hs := size_pos_of h1 (by omega)
 have hk1 := fb_ge (s := s) (c := 64) (a := 1) (by omega)
 have hk2 := fb_at (s := s) (c := 64) (a := 1) (by omega) h2
 rw [htOf_yes h3]
 show (({ data := #[64] } : ByteArray) ++ s.extract 1 (rhK s)) ++ { data := #[64] } ++ s.extract (rhK s + 1) s.size = s
 have e1 : ({ data := #[64] } : ByteArray) = s.extract 0 (0 + 1) := (ext_byte (c := 64) hs h1).symm
 have e2 : ({ data := #[64] } : ByteArray) = s.extract (rhK s) (rhK s + 1) := (ext_byte (c := 64) h2 hk2).symm
 have hk : 1 ≤ rhK s := hk1
 conv => lhs; lhs; rhs; rw [e2]
 conv => lhs; lhs; lhs; lhs; rw [e1]
 rw [ext_cat (by omega) hk (by omega), ext_cat (by omega) (by omega) (by omega), ext_cat (by omega) (by omega) (Nat.le_refl _), extract_all]
theorem ht_first {h : ElHandle} (hv : hvB h = true) : bb (htOf h) 0 = 64 := by
 rw [htOf_yes hv, bb_left (by rw [ByteArray.size_append, ByteArray.size_append]; show 0 < 1 + _ + _; omega), bb_left (by rw [ByteArray.size_append]; show 0 < 1 + _; omega), bb_left (by decide)]
 rfl
theorem ht_other {s : ByteArray} {h : ElHandle} (h1 : bb s 0 ≠ 64) (hv : hvB h = true) : htOf h ≠ s := fun e => h1 (by rw [← e]; exact ht_first hv)
end Go.Proofs.YtfnmlffpnmmcdaaGreatDoor
namespace Go.Proofs.YtfnmlffpnmmcdaaGreatDoor
set_option maxRecDepth 100000
def hasK (xs : List ElItem) (key : ByteArray) : Bool := decide (0 ≤ itemIx xs key)
def iwOf (xs : List ElItem) (key : ByteArray) : ElItem := if hasK xs key = true then gt xs (itemIx xs key).toNat else ({ data := #[] }, { data := #[] }, { data := #[] }, 0)
theorem ix_neg {xs : List ElItem} {key : ByteArray} (h : hasK xs key = false) : itemIx xs key = -1 := by
 have h1 := of_decide_eq_false h
 have h2 : -1 ≤ itemIx xs key := ix_lo
 omega
theorem ix_pos {xs : List ElItem} {key : ByteArray} (h : hasK xs key = true) : ∃ k, k < xs.length ∧ itemIx xs key = (k : Int) ∧ gt xs k = iwOf xs key ∧ (iwOf xs key).1 = key := by
 have h1 : 0 ≤ itemIx xs key := of_decide_eq_true h
 have h3 : itemIx xs key < xs.length := ix_hi
 rcases ix_cases (p := isI key) (xs := xs) with ⟨h4, _⟩ | ⟨k, hk, he, hp, _⟩
 ·unfold itemIx at h1; omega
 ·have he' : itemIx xs key = (k : Int) := he
  have hw : gt xs k = iwOf xs key := by unfold iwOf; rw [if_pos h, he', Int.toNat_natCast]
  exact ⟨k, hk, he', hw, by rw [← hw]; exact seq_true.1 hp⟩
theorem iw_no {xs : List ElItem} {key : ByteArray} (h : hasK xs key = false) : iwOf xs key = ({ data := #[] }, { data := #[] }, { data := #[] }, 0) := if_neg (by rw [h]; simp)
theorem iw_at {xs : List ElItem} {key : ByteArray} {k : Nat} (hk : k < xs.length) (h1 : ∀ j, j < k → isI key (gt xs j) = false) (h2 : isI key (gt xs k) = true) : hasK xs key = true ∧ iwOf xs key = gt xs k := by
 have he : itemIx xs key = (k : Int) := ix_at hk h1 h2
 have hh : hasK xs key = true := decide_eq_true (by rw [he]; omega)
 exact ⟨hh, by unfold iwOf; rw [if_pos hh, he, Int.toNat_natCast]⟩
theorem hasK_no {xs : List ElItem} {key : ByteArray} (h1 : ∀ j, j < xs.length → isI key (gt xs j) = false) : hasK xs key = false := decide_eq_false (by
 have : itemIx xs key = -1 := ix_none h1
 omega)
theorem hasK_mem {xs : List ElItem} {key : ByteArray} : hasK xs key = true ↔ ∃ x ∈ xs, x.1 = key := by
 constructor
 ·intro h
  obtain ⟨k, hk, _, hw, he⟩ := ix_pos h
  exact ⟨gt xs k, gt_mem hk, by rw [hw]; exact he⟩
 ·rintro ⟨x, hx, rfl⟩
  obtain ⟨k, hk, rfl⟩ := mem_gt hx
  cases h : hasK xs (gt xs k).1
  ·have h1 := ix_neg h
   rcases ix_cases (p := isI (gt xs k).1) (xs := xs) with ⟨_, h4⟩ | ⟨j, _, he, _⟩
   ·have := h4 k hk
    unfold isI at this
    rw [seq_self] at this; cases this
   ·unfold itemIx at h1; omega
  ·rfl
section
variable {α : Type}
def selTo (p : α → Bool) (xs : List α) (k : Nat) : List α := (xs.take k).filter p
theorem selTo_zero (p : α → Bool) (xs : List α) : selTo p xs 0 = [] := rfl
variable [Inhabited α]
theorem selTo_is {p : α → Bool} {xs : List α} {k : Nat} (hk : k < xs.length) (h : p (gt xs k) = true) : selTo p xs (k + 1) = selTo p xs k ++ [gt xs k] := by
 unfold selTo; rw [take_snoc hk, List.filter_append]; simp [h]
theorem selTo_not {p : α → Bool} {xs : List α} {k : Nat} (hk : k < xs.length) (h : p (gt xs k) = false) : selTo p xs (k + 1) = selTo p xs k := by
 unfold selTo; rw [take_snoc hk, List.filter_append]; simp [h]
end
theorem selTo_all {α : Type} (p : α → Bool) (xs : List α) : selTo p xs xs.length = xs.filter p := by unfold selTo; rw [List.take_length]
def nwP (bs : List ElItem) (i : ElItem) : Bool := !hasK bs i.1
def nwOf (bs ns : List ElItem) : List ElItem := ns.filter (nwP bs)
def chP (bs : List ElItem) (i : ElItem) : Bool := hasK bs i.1 && !eqEl (iwOf bs i.1) i
def chOf (bs ns : List ElItem) : List ElItem := ns.filter (chP bs)
def gkOf (bs ns : List ElItem) : List ByteArray := (nwOf ns bs).map (·.1)
def mfI (ns : List ElItem) (i : ElItem) : ElItem := if hasK ns i.1 = true then iwOf ns i.1 else i
def mfL (bs ns : List ElItem) : List ElItem := bs.map (mfI ns) ++ nwOf bs ns
def mfOf (bs ns : List ElItem) : List ElItem := if (mfL bs ns).length ≤ 8 then mfL bs ns else []
theorem nwOf_len (bs ns : List ElItem) : (nwOf bs ns).length ≤ ns.length := List.length_filter_le _ _
theorem chOf_len (bs ns : List ElItem) : (chOf bs ns).length ≤ ns.length := List.length_filter_le _ _
theorem gkOf_len (bs ns : List ElItem) : (gkOf bs ns).length ≤ bs.length := by unfold gkOf; rw [List.length_map]; exact nwOf_len _ _
theorem mfI_key (ns : List ElItem) (i : ElItem) : (mfI ns i).1 = i.1 := by
 unfold mfI
 split
 ·next h => obtain ⟨_, _, _, _, he⟩ := ix_pos h; exact he
 ·rfl
theorem mfI_ok {ns : List ElItem} {i : ElItem} (ha : fdB ns = true) (hi : ivB i = true) : ivB (mfI ns i) = true := by
 unfold mfI
 split
 ·next h => obtain ⟨k, hk, _, hw, _⟩ := ix_pos h; rw [← hw]; exact fd_iv ha hk
 ·exact hi
theorem gt_el {xs : List ElItem} {k : Nat} (h : k < xs.length) : gt xs k = xs[k] := by unfold gt; rw [List.getElem?_eq_getElem h]; rfl
theorem fd_mk {xs : List ElItem} (hl : xs.length ≤ 8) (h1 : ∀ x ∈ xs, ivB x = true) (h2 : xs.Pairwise (fun a b => a.1 ≠ b.1)) : fdB xs = true :=
 vdB_true ⟨hl, fun k hk => ⟨h1 _ (gt_mem hk), fun j hj => by
  have := List.pairwise_iff_getElem.1 h2 j k (by omega) hk hj
  rw [← gt_el, ← gt_el] at this; exact this⟩⟩
theorem fd_pair {xs : List ElItem} (h : fdB xs = true) : xs.Pairwise (fun a b => a.1 ≠ b.1) := List.pairwise_iff_getElem.2 fun i j hi hj hij => by
 rw [← gt_el hi, ← gt_el hj]; exact ((Vd.of h).2 j hj).2 i hij
theorem fd_all {xs : List ElItem} (h : fdB xs = true) : ∀ x ∈ xs, ivB x = true := fun x hx => by
 obtain ⟨k, hk, rfl⟩ := mem_gt hx
 exact fd_iv h hk
theorem fd_part {fs gs : List ElItem} (h : fdB fs = true) (hs : gs.Sublist fs) : fdB gs = true :=
 fd_mk (by have := fd_len h; have := hs.length_le; omega) (fun x hx => fd_all h x (hs.subset hx)) ((fd_pair h).sublist hs)
theorem fd_one {i : ElItem} (h : ivB i = true) : fdB [i] = true := fd_mk (by simp) (fun x hx => by rw [List.mem_singleton] at hx; rw [hx]; exact h) (List.pairwise_singleton _ _)
theorem mfOf_fd {bs ns : List ElItem} (hb : fdB bs = true) (ha : fdB ns = true) : fdB (mfOf bs ns) = true := by
 unfold mfOf
 split
 ·next hl =>
  refine fd_mk hl (fun x hx => ?_) ?_
  ·rcases List.mem_append.1 hx with h | h
   ·obtain ⟨i, hi, rfl⟩ := List.mem_map.1 h
    exact mfI_ok ha (fd_all hb i hi)
   ·exact fd_all ha x (List.mem_filter.1 h).1
  ·refine List.pairwise_append.2 ⟨?_, (fd_pair ha).sublist List.filter_sublist, fun x hx y hy => ?_⟩
   ·refine List.pairwise_map.2 ((fd_pair hb).imp fun h => ?_)
    rw [mfI_key, mfI_key]; exact h
   ·obtain ⟨i, hi, rfl⟩ := List.mem_map.1 hx
    rw [mfI_key]
    intro e
    have h1 := (List.mem_filter.1 hy).2
    unfold nwP at h1
    rw [hasK_mem.2 ⟨i, hi, e⟩] at h1; cases h1
 ·exact fd_mk (by simp) (fun x hx => by cases hx) List.Pairwise.nil
abbrev ElAct := Int × Int × ByteArray × ByteArray × ByteArray
def encAct (x : ElAct) : Nat → Value
 | 0 => .int .i64 x.1
 | 1 => .int .i64 x.2.1
 | 2 => .string x.2.2.1
 | 3 => .string x.2.2.2.1
 | _ => .string x.2.2.2.2
theorem encAct_one (x : ElAct) (i : Nat) : (encAct x i).oneCell' = true := by unfold encAct; split <;> rfl
def acts (who : ElHandle) (n : Int) (ks : List (Int × ByteArray)) : List ElAct := ks.zipIdx.map fun p => (p.1.1, n + (p.2 : Int), who.1, who.2, p.1.2)
theorem acts_len (who : ElHandle) (n : Int) (ks : List (Int × ByteArray)) : (acts who n ks).length = ks.length := by simp [acts]
theorem acts_snoc (who : ElHandle) (n : Int) (ks : List (Int × ByteArray)) (x : Int × ByteArray) : acts who n (ks ++ [x]) = acts who n ks ++ [(x.1, n + (ks.length : Int), who.1, who.2, x.2)] := by
 simp [acts, List.zipIdx_append]
theorem acts_head (who : ElHandle) (n : Int) {ks : List (Int × ByteArray)} (h : 0 < ks.length) : gt (acts who n ks) 0 = ((gt ks 0).1, n, who.1, who.2, (gt ks 0).2) := by
 cases ks with
 | nil => exact absurd h (by simp)
 | cons x r => simp [acts, gt]
def kk (c : Int) (xs : List ElItem) : List (Int × ByteArray) := xs.map fun i => (c, i.1)
def kg (xs : List ByteArray) : List (Int × ByteArray) := xs.map fun k => (2, k)
def tcK (bs ns : List ElItem) : List (Int × ByteArray) := kk 0 (nwOf bs ns) ++ kk 1 (chOf bs ns) ++ kg (gkOf bs ns)
def tcOf (who : ElHandle) (n : Int) (bs ns : List ElItem) : List ElAct := acts who n (tcK bs ns)
theorem tcK_mem {bs ns : List ElItem} (hb : fdB bs = true) (ha : fdB ns = true) {p : Int × ByteArray} (hp : p ∈ tcK bs ns) : (p.1 = 0 ∨ p.1 = 1 ∨ p.1 = 2) ∧ wordB p.2 = true := by
 have hw : ∀ {xs : List ElItem} {x : ElItem}, fdB xs = true → x ∈ xs → wordB x.1 = true := fun h hx => by
  have h1 := fd_all h _ hx
  unfold ivB at h1
  simp only [Bool.and_eq_true] at h1
  first | exact h1.1 | exact h1.1.1 | exact h1.1.1.1 | exact h1.1.1.1.1
 unfold tcK at hp
 rcases List.mem_append.1 hp with hp | hp
 ·rcases List.mem_append.1 hp with hp | hp
  ·obtain ⟨i, hi, rfl⟩ := List.mem_map.1 hp
   exact ⟨.inl rfl, hw ha (List.mem_filter.1 hi).1⟩
  ·obtain ⟨i, hi, rfl⟩ := List.mem_map.1 hp
   exact ⟨.inr (.inl rfl), hw ha (List.mem_filter.1 hi).1⟩
 ·obtain ⟨k, hk, rfl⟩ := List.mem_map.1 hp
  obtain ⟨i, hi, rfl⟩ := List.mem_map.1 hk
  exact ⟨.inr (.inr rfl), hw hb (List.mem_filter.1 hi).1⟩
end Go.Proofs.YtfnmlffpnmmcdaaGreatDoor
namespace Go.Proofs.YtfnmlffpnmmcdaaGreatDoor
set_option maxRecDepth 100000
section
variable {α : Type} [Inhabited α] {p : α → Bool} {xs : List α}
theorem filter_keep (h : ∀ j, j < xs.length → p (gt xs j) = false) : xs.filter (fun x => !p x) = xs := List.filter_eq_self.2 fun x hx => by
 obtain ⟨k, hk, rfl⟩ := mem_gt hx
 rw [h k hk]; rfl
theorem filter_without {k : Nat} (hk : k < xs.length) (h1 : ∀ j, j < k → p (gt xs j) = false) (h2 : p (gt xs k) = true) (h3 : ∀ j, k < j → j < xs.length → p (gt xs j) = false) : xs.filter (fun x => !p x) = xs.take k ++ xs.drop (k + 1) := by
 have e : xs = xs.take k ++ (gt xs k :: xs.drop (k + 1)) := by
  have h : gt xs k = xs[k] := by unfold gt; rw [List.getElem?_eq_getElem hk]; rfl
  rw [h, ← List.drop_eq_getElem_cons hk, List.take_append_drop]
 have ht : (xs.take k).filter (fun x => !p x) = xs.take k := filter_keep fun j hj => by
  rw [List.length_take] at hj
  rw [gt_take (by omega)]
  exact h1 j (by omega)
 have hd : (xs.drop (k + 1)).filter (fun x => !p x) = xs.drop (k + 1) := filter_keep fun j hj => by
  rw [List.length_drop] at hj
  rw [gt_drop]
  exact h3 _ (by omega) (by omega)
 rw [show xs.filter (fun x => !p x) = (xs.take k ++ (gt xs k :: xs.drop (k + 1))).filter (fun x => !p x) by rw [← e], List.filter_append, ht, List.filter_cons, if_neg (by rw [h2]; simp), hd]
end
theorem filter_without_len {α : Type} {xs : List α} {k : Nat} (hk : k < xs.length) : (xs.take k ++ xs.drop (k + 1)).length < xs.length := by simp; omega
def isH (h x : ElHandle) : Bool := eqEl x h
def ufOf (fs : List ElHandle) (h : ElHandle) : List ElHandle := fs.filter (fun x => !isH h x)
def ufOk (fs : List ElHandle) (h : ElHandle) : Bool := decide ((ufOf fs h).length < fs.length)
theorem isH_at {h x : ElHandle} : isH h x = true ↔ x = h := by unfold isH eqEl; simp
theorem uf_no {fs : List ElHandle} {h : ElHandle} (hn : ix (isH h) fs = -1) : ufOf fs h = fs ∧ ufOk fs h = false := by
 have hk : ufOf fs h = fs := filter_keep fun j hj => by
  rcases ix_cases (p := isH h) (xs := fs) with ⟨_, h2⟩ | ⟨k, _, he, _⟩
  ·exact h2 j hj
  ·omega
 refine ⟨hk, ?_⟩
 unfold ufOk
 rw [hk]
 exact decide_eq_false (Nat.lt_irrefl _)
theorem uf_at {fs : List ElHandle} {h : ElHandle} (hv : fvB fs = true) {k : Nat} (he : ix (isH h) fs = (k : Int)) : k < fs.length ∧ ufOf fs h = fs.take k ++ fs.drop (k + 1) ∧ ufOk fs h = true := by
 rcases ix_cases (p := isH h) (xs := fs) with ⟨h1, _⟩ | ⟨j, hj, he2, hp, hb⟩
 ·omega
 ·obtain rfl : j = k := by omega
  have hk : ufOf fs h = fs.take j ++ fs.drop (j + 1) := filter_without hj hb hp fun i hi hil => by
   have hs := (Fv.of hv).sorted i j hi hil
   cases hq : isH h (gt fs i)
   ·rfl
   ·rw [isH_at.1 hp, isH_at.1 hq] at hs
    exact absurd hs BefH.irrefl
  refine ⟨hj, hk, ?_⟩
  unfold ufOk
  rw [hk]
  exact decide_eq_true (filter_without_len hj)
theorem fv_part {fs gs : List ElHandle} (h : fvB fs = true) (hs : gs.Sublist fs) : fvB gs = true := by
 have hd : fs.Pairwise BefH := List.pairwise_iff_getElem.2 fun i j hi hj hij => by
  have := (Fv.of h).sorted j i hij hj
  rw [show gt fs i = fs[i] by unfold gt; rw [List.getElem?_eq_getElem hi]; rfl, show gt fs j = fs[j] by unfold gt; rw [List.getElem?_eq_getElem hj]; rfl] at this
  exact this
 have hd2 := hd.sublist hs
 have hl := (Fv.of h).1
 have hl2 := hs.length_le
 exact decide_eq_true (Fv.mk (by omega) (fun p hp => (Fv.of h).ok (hs.subset hp)) fun i j hij hj => by
  have := List.pairwise_iff_getElem.1 hd2 i j (by omega) hj hij
  rw [show gt gs i = gs[i] by unfold gt; rw [List.getElem?_eq_getElem (by omega)]; rfl, show gt gs j = gs[j] by unfold gt; rw [List.getElem?_eq_getElem hj]; rfl]
  exact this)
theorem ufOf_fv {fs : List ElHandle} {h : ElHandle} (hv : fvB fs = true) : fvB (ufOf fs h) = true := fv_part hv List.filter_sublist
theorem fv_sz {fs : List ElHandle} (h : fvB fs = true) : ∀ k, k < fs.length → (gt fs k).1.size ≤ maxLen ∧ (gt fs k).2.size ≤ maxLen := fun k hk => by
 have h1 := (Fv.of h).ok (gt_mem hk)
 have h2 : hvB (gt fs k) = true := h1
 obtain ⟨⟨_, z0⟩, _, z1⟩ := hv_sizes h2
 unfold maxLen; omega
end Go.Proofs.YtfnmlffpnmmcdaaGreatDoor
namespace Go.Proofs.YtfnmlffpnmmcdaaGreatDoor
set_option maxRecDepth 100000
def kwOf : Nat → ByteArray
 | 0 => { data := #[99, 114, 101, 97, 116, 101] }
 | 1 => { data := #[117, 112, 100, 97, 116, 101] }
 | 2 => { data := #[100, 101, 108, 101, 116, 101] }
 | 3 => { data := #[102, 111, 108, 108, 111, 119] }
 | 4 => { data := #[97, 99, 99, 101, 112, 116] }
 | _ => { data := #[117, 110, 100, 111] }
theorem kwOf_size (k : Nat) : (kwOf k).size ≤ 6 := by unfold kwOf; split <;> decide
def acB (kind num : Int) (who : ElHandle) (what : ByteArray) : Bool := inB kind 0 5 && (inB num 0 1000000000 && (hvB who && wordB what))
theorem acB_1 {kind : Int} (num : Int) (who : ElHandle) (what : ByteArray) (h : inB kind 0 5 = false) : acB kind num who what = false := by unfold acB; rw [h]; rfl
theorem acB_2 (kind : Int) {num : Int} (who : ElHandle) (what : ByteArray) (h : inB num 0 1000000000 = false) : acB kind num who what = false := by unfold acB; rw [h]; simp
theorem acB_3 (kind num : Int) {who : ElHandle} (what : ByteArray) (h : hvB who = false) : acB kind num who what = false := by unfold acB; rw [h]; simp
theorem acB_4 {kind num : Int} {who : ElHandle} (what : ByteArray) (h1 : inB kind 0 5 = true) (h2 : inB num 0 1000000000 = true) (h3 : hvB who = true) : acB kind num who what = wordB what := by unfold acB; rw [h1, h2, h3]; rfl
theorem acB_of {kind num : Int} {who : ElHandle} {what : ByteArray} (h : acB kind num who what = true) : (0 ≤ kind ∧ kind ≤ 5) ∧ (0 ≤ num ∧ num ≤ 1000000000) ∧ hvB who = true ∧ wordB what = true := by
 unfold acB inB at h
 simp only [Bool.and_eq_true, decide_eq_true_eq] at h
 exact ⟨h.1, h.2.1, h.2.2.1, h.2.2.2⟩
def acOf (kind : Nat) (num : Int) (who : ElHandle) (what : ByteArray) : ByteArray := kwOf kind ++ { data := #[32] } ++ mkOf num ++ { data := #[32] } ++ htOf who ++ { data := #[32] } ++ what
end Go.Proofs.YtfnmlffpnmmcdaaGreatDoor
namespace Go.Proofs.YtfnmlffpnmmcdaaGreatDoor
set_option maxRecDepth 100000
open Go.RowKit
theorem implHandleValid_any (a b : ByteArray) (w : World) (ha : a.size ≤ maxLen) (hb : b.size ≤ maxLen) : Calls Tryz.prog 64 #[.agg #[.string a, .string b]] w fun e w' => e = .returned (.bool (hvB (a, b))) ∧ w' = w.alloc (.cells #[.string a, .string b] 29) := by
 cases q1 : wordB a <;> cases q2 : wordB b
 all_goals
  have HQ := Lib.hid (show hvB (a, b) = _ by unfold hvB; rw [show (a, b).1 = a from rfl, show (a, b).2 = b from rfl, q1, q2])
  go_enter Tryz.func64, Tryz.ntmps64
  go_wp2_with (go_at_call 68; refine (implWordValid_any _ _ (by assumption)).mono ?_; rintro e w' ⟨rfl, rfl⟩)
  go_ret
  exact ⟨ret_bool HQ.out.symm, rfl⟩
theorem specHandleValid_any (a b : ByteArray) (w : World) (ha : a.size ≤ maxLen) (hb : b.size ≤ maxLen) : Calls Tryz.prog 78 #[.agg #[.string a, .string b]] w fun e w' => e = .returned (.bool (hvB (a, b))) ∧ w' = w.alloc (.cells #[.string a, .string b] 29) := by
 cases q1 : wordB a <;> cases q2 : wordB b
 all_goals
  have HQ := Lib.hid (show hvB (a, b) = _ by unfold hvB; rw [show (a, b).1 = a from rfl, show (a, b).2 = b from rfl, q1, q2])
  go_enter Tryz.func78, Tryz.ntmps78
  go_wp2_with (go_at_call 119; refine (specWordValid_any _ _ (by assumption)).mono ?_; rintro e w' ⟨rfl, rfl⟩)
  go_ret
  exact ⟨ret_bool HQ.out.symm, rfl⟩
theorem implHandleValid_b (a b : ByteArray) (w : World) (ha : a.size ≤ maxLen) (hb : b.size ≤ maxLen) : Calls Tryz.prog 64 #[.agg #[.string a, .string b]] w fun e w' => e = .returned (.bool (hvB (a, b))) ∧ Below w.heap.size w w' := (implHandleValid_any a b w ha hb).mono (by rintro e w' ⟨rfl, rfl⟩; exact ⟨rfl, (Below.refl _ _).alloc (Nat.le_refl _) _⟩)
theorem specHandleValid_b (a b : ByteArray) (w : World) (ha : a.size ≤ maxLen) (hb : b.size ≤ maxLen) : Calls Tryz.prog 78 #[.agg #[.string a, .string b]] w fun e w' => e = .returned (.bool (hvB (a, b))) ∧ Below w.heap.size w w' := (specHandleValid_any a b w ha hb).mono (by rintro e w' ⟨rfl, rfl⟩; exact ⟨rfl, (Below.refl _ _).alloc (Nat.le_refl _) _⟩)
end Go.Proofs.YtfnmlffpnmmcdaaGreatDoor
namespace Go.Proofs.YtfnmlffpnmmcdaaGreatDoor
set_option maxRecDepth 100000
open Go.RowKit
set_option maxHeartbeats 400000 in
theorem itemNumber_any (A : Option Addr) (cap B : Nat) (xs : List ElItem) (key : ByteArray) (w : World) (h : RdE 4 encItem w B A xs) (hB : B ≤ w.heap.size) (hl : xs.length ≤ 140737488351232) :
    Calls Tryz.prog 103 #[.slice A xs.length cap, .string key] w fun e w' => e = .returned (.int .i64 (itemIx xs key)) ∧ Below w.heap.size w w' := by
 go_enter Tryz.func103, Tryz.ntmps103
 go_wp2_with fail
 go_loopw [9] (fun i wr => ∃ k : Nat, k ≤ xs.length ∧ Hid (∀ j, j < k → isI key (gt xs j) = false) ∧ i = .int .i64 k ∧ Below w.heap.size w wr) (fun i _ => xs.length - (intOf i).toNat)
 case atStart => exact ⟨0, Nat.zero_le _, Lib.hid (fun j hj => absurd hj (by omega)), rfl, Below.refl _ _⟩
 case round =>
  obtain ⟨k, hk, hno, rfl, hbl⟩ := hrel
  by_cases hlt : k < xs.length
  ·obtain ⟨b, off, rfl, hb, hc⟩ := (h.below (hbl.mono hB)).at_ (by omega)
   have e0 : (wr.alloc (.cells #[Value.string (gt xs k).1, Value.string (gt xs k).2.1, Value.string (gt xs k).2.2.1, Value.int .i64 (gt xs k).2.2.2] 69)).cell? ⟨wr.heap.size, 0, none⟩ = some (Value.string (gt xs k).1) := by rw [World.cell?_alloc_at _ _ _ _ rfl]; rfl
   have e1 : (wr.alloc (.cells #[Value.string (gt xs k).1, Value.string (gt xs k).2.1, Value.string (gt xs k).2.2.1, Value.int .i64 (gt xs k).2.2.2] 69)).cell? ⟨wr.heap.size, 1, none⟩ = some (Value.string (gt xs k).2.1) := by rw [World.cell?_alloc_at _ _ _ _ rfl]; rfl
   have e2 : (wr.alloc (.cells #[Value.string (gt xs k).1, Value.string (gt xs k).2.1, Value.string (gt xs k).2.2.1, Value.int .i64 (gt xs k).2.2.2] 69)).cell? ⟨wr.heap.size, 2, none⟩ = some (Value.string (gt xs k).2.2.1) := by rw [World.cell?_alloc_at _ _ _ _ rfl]; rfl
   have e3 : (wr.alloc (.cells #[Value.string (gt xs k).1, Value.string (gt xs k).2.1, Value.string (gt xs k).2.2.1, Value.int .i64 (gt xs k).2.2.2] 69)).cell? ⟨wr.heap.size, 3, none⟩ = some (Value.int .i64 (gt xs k).2.2.2) := by rw [World.cell?_alloc_at _ _ _ _ rfl]; rfl
   have c0 : wr.cell? ⟨b, off + k * 4, none⟩ = some (Value.string (gt xs k).1) := hc k 0 (by omega) (by omega)
   have c1 : wr.cell? ⟨b, off + k * 4 + 1, none⟩ = some (Value.string (gt xs k).2.1) := hc k 1 (by omega) (by omega)
   have c2 : wr.cell? ⟨b, off + k * 4 + 2, none⟩ = some (Value.string (gt xs k).2.2.1) := hc k 2 (by omega) (by omega)
   have c3 : wr.cell? ⟨b, off + k * 4 + 3, none⟩ = some (Value.int .i64 (gt xs k).2.2.2) := hc k 3 (by omega) (by omega)
   clear hc
   by_cases hq : isI key (gt xs k) = true
   ·have q0 : ((gt xs k).1.toList == key.toList) = true := by rw [seq_eql]; exact hq
    have HQ := Lib.hid (ix_at hlt hno.out hq)
    clear hq
    go_wp2_with fail
    go_ret
    exact ⟨ret_int HQ.out.symm, hbl.alloc hbl.size _⟩
   ·have hq' : isI key (gt xs k) = false := by simpa using hq
    have q0 : ((gt xs k).1.toList == key.toList) = false := by rw [seq_eql]; exact hq'
    clear hq
    go_wp2_with fail
    go_roundw
    case rel => exact ⟨k + 1, by omega, Lib.hid (fun j hj => by
     rcases Nat.lt_succ_iff_lt_or_eq.1 hj with h1 | rfl
     ·exact hno.out j h1
     ·exact hq'), by go_num, hbl.alloc hbl.size _⟩
    case measure => simp [intOf]; omega
  ·obtain rfl : k = xs.length := by omega
   go_wp2_with fail
   go_ret
   exact ⟨ret_int (ix_none hno.out).symm, hbl⟩
set_option maxHeartbeats 1600000 in
theorem specFeedValid_any (A : Option Addr) (cap B : Nat) (xs : List ElItem) (w : World) (h : RdE 4 encItem w B A xs) (hB : B ≤ w.heap.size) (hl : xs.length ≤ 140737488351232) (hsz : ∀ k, k < xs.length → (gt xs k).1.size ≤ maxLen ∧ (gt xs k).2.1.size ≤ maxLen ∧ (gt xs k).2.2.1.size ≤ maxLen) :
    Calls Tryz.prog 79 #[.slice A xs.length cap] w fun e w' => e = .returned (.bool (fdB xs)) ∧ Below w.heap.size w w' := by
 have HD := Lib.hid hsz
 clear hsz
 go_enter Tryz.func79, Tryz.ntmps79
 go_wp2_with fail
 go_loopw [3, 4] (fun i _ wr => ∃ k : Nat, k ≤ xs.length ∧ Hid (upTo OkI xs k) ∧ i = .int .i64 k ∧ Below w.heap.size w wr) (fun i _ _ => xs.length - (intOf i).toNat)
 case atStart => exact ⟨0, Nat.zero_le _, Lib.hid upTo_zero, rfl, Below.refl _ _⟩
 case round =>
  obtain ⟨k, hk, hok, rfl, hbl⟩ := hrel
  have hsw := hbl.size
  by_cases hlt : k < xs.length
  ·obtain ⟨z0, z1, z2⟩ := HD.out k hlt
   obtain ⟨b, off, rfl, hb, hc⟩ := (h.below (hbl.mono hB)).at_ (by omega)
   have c0 : wr.cell? ⟨b, off + k * 4, none⟩ = some (Value.string (gt xs k).1) := hc k 0 (by omega) (by omega)
   have c1 : wr.cell? ⟨b, off + k * 4 + 1, none⟩ = some (Value.string (gt xs k).2.1) := hc k 1 (by omega) (by omega)
   have c2 : wr.cell? ⟨b, off + k * 4 + 2, none⟩ = some (Value.string (gt xs k).2.2.1) := hc k 2 (by omega) (by omega)
   have c3 : wr.cell? ⟨b, off + k * 4 + 3, none⟩ = some (Value.int .i64 (gt xs k).2.2.2) := hc k 3 (by omega) (by omega)
   have HC := Lib.hid hc
   clear hc
   by_cases hv : ivB (gt xs k) = true
   ·have HV := Lib.hid hv
    go_wp2_with fail
    refine (specItemValid_any (gt xs k).1 (gt xs k).2.1 (gt xs k).2.2.1 (gt xs k).2.2.2 wr z0 z1 z2).mono ?_
    rintro e w1 ⟨rfl, hb1⟩
    have hs1 := hb1.size
    have hbl1 := hbl.trans (hb1.mono hsw)
    rw [show ivB ((gt xs k).1, (gt xs k).2.1, (gt xs k).2.2.1, (gt xs k).2.2.2) = true from hv]
    have f0 := cellOn c0 (by show b < _; omega) hb1
    clear hv c0 c1 c2 c3
    go_wp2_with fail
    obtain ⟨wo, rfl⟩ : ∃ wo : World, wo = w1 := ⟨_, rfl⟩
    have hblo := hbl1
    have HCo : Hid (∀ (k i : Nat), k < xs.length → i < 4 → wo.cell? ⟨b, off + (k * 4 + i), none⟩ = some (encItem (gt xs k) i)) := Lib.hid (fun q i hq hi => cellOn (HC.out q i hq hi) (by show b < _; omega) hb1)
    have hbsz : b < wo.heap.size := by omega
    clear HC hbl hbl1 hb1 f0
    go_loopw [4] (fun i wr => ∃ j : Nat, j ≤ k ∧ Hid (∀ q, q < j → (gt xs q).1 ≠ (gt xs k).1) ∧ i = .int .i64 j ∧ Below wo.heap.size wo wr) (fun i _ => k - (intOf i).toNat)
    case atStart => exact ⟨0, Nat.zero_le _, Lib.hid (fun j hj => absurd hj (by omega)), rfl, Below.refl _ _⟩
    case round =>
     obtain ⟨j, hj, hdj, rfl, hbi⟩ := hrel
     have hbw := hblo.trans (hbi.mono hblo.size)
     by_cases hjk : j < k
     ·have d0 : wr.cell? ⟨b, off + j * 4, none⟩ = some (Value.string (gt xs j).1) := (hbi.cell (by exact hbsz)).trans (HCo.out j 0 (by omega) (by omega))
      have d1 : wr.cell? ⟨b, off + k * 4, none⟩ = some (Value.string (gt xs k).1) := (hbi.cell (by exact hbsz)).trans (HCo.out k 0 (by omega) (by omega))
      have hjl : j < xs.length := by omega
      by_cases hq : (gt xs j).1 = (gt xs k).1
      ·have q0 : ((gt xs j).1.toList == (gt xs k).1.toList) = true := by rw [seq_eql]; exact seq_true.2 hq
       have HQ := Lib.hid (vdB_bad (Ok := OkI) (mx := 8) hlt (fun hk => hk.2 j hjk hq))
       clear hq
       go_wp2_with fail
       go_quiet (fail)
       go_wp2_with fail
       go_ret
       exact ⟨ret_bool HQ.out.symm, below_drewN hbw _⟩
      ·have q0 : ((gt xs j).1.toList == (gt xs k).1.toList) = false := by rw [seq_eql]; exact seq_false.2 hq
       have HJ : Hid (∀ q, q < j + 1 → (gt xs q).1 ≠ (gt xs k).1) := Lib.hid (fun q hq1 => by
        rcases Nat.lt_succ_iff_lt_or_eq.1 hq1 with h1 | rfl
        ·exact hdj.out q h1
        ·exact hq)
       clear hq
       go_wp2_with fail
       go_quiet (fail)
       go_wp2_with fail
       go_roundw
       case rel => exact ⟨j + 1, by omega, HJ, by go_num, below_drewN hbi _⟩
       case measure => simp [intOf]; omega
     ·obtain rfl : j = k := by omega
      have HN := Lib.hid (upTo_succ hok.out ⟨HV.out, hdj.out⟩)
      go_wp2_with fail
      go_roundw
      case rel => exact ⟨j + 1, by omega, HN, by go_num, hbw⟩
      case measure => simp [intOf]; omega
   ·have hv' : ivB (gt xs k) = false := by simpa using hv
    have HQ := Lib.hid (vdB_bad (Ok := OkI) (mx := 8) hlt (fun hk => hv hk.1))
    clear hv
    go_wp2_with fail
    refine (specItemValid_any (gt xs k).1 (gt xs k).2.1 (gt xs k).2.2.1 (gt xs k).2.2.2 wr z0 z1 z2).mono ?_
    rintro e w1 ⟨rfl, hb1⟩
    rw [show ivB ((gt xs k).1, (gt xs k).2.1, (gt xs k).2.2.1, (gt xs k).2.2.2) = false from hv']
    go_wp2_with fail
    go_ret
    exact ⟨ret_bool HQ.out.symm, hbl.trans (hb1.mono hsw)⟩
  ·obtain rfl : k = xs.length := by omega
   have HQ := Lib.hid (vdB_all (mx := 8) hok.out)
   go_wp2_with fail
   go_ret
   exact ⟨ret_bool HQ.out, hbl⟩
end Go.Proofs.YtfnmlffpnmmcdaaGreatDoor
namespace Go.Proofs.YtfnmlffpnmmcdaaGreatDoor
set_option maxRecDepth 100000
open Go.RowKit
set_option maxHeartbeats 1600000 in
theorem implFeedValid_any (A : Option Addr) (cap B : Nat) (xs : List ElItem) (w : World) (h : RdE 4 encItem w B A xs) (hB : B ≤ w.heap.size) (hl : xs.length ≤ 140737488351232) (hcap : xs.length ≤ cap) (hsz : ∀ k, k < xs.length → (gt xs k).1.size ≤ maxLen ∧ (gt xs k).2.1.size ≤ maxLen ∧ (gt xs k).2.2.1.size ≤ maxLen) :
    Calls Tryz.prog 65 #[.slice A xs.length cap] w fun e w' => e = .returned (.bool (fdB xs)) ∧ Below w.heap.size w w' := by
 have HD := Lib.hid hsz
 clear hsz
 by_cases hlen : xs.length ≤ 8
 ·have hd : decide (8 < (xs.length : Int)) = false := decide_eq_false (by omega)
  go_enter Tryz.func65, Tryz.ntmps65
  go_wp2_with fail
  go_loopw [10] (fun i wr => ∃ k : Nat, k ≤ xs.length ∧ Hid (upTo OkI xs k) ∧ i = .int .i64 k ∧ Below w.heap.size w wr) (fun i _ => xs.length - (intOf i).toNat)
  case atStart => exact ⟨0, Nat.zero_le _, Lib.hid upTo_zero, rfl, Below.refl _ _⟩
  case round =>
   obtain ⟨k, hk, hok, rfl, hbl⟩ := hrel
   have hsw := hbl.size
   by_cases hlt : k < xs.length
   ·obtain ⟨z0, z1, z2⟩ := HD.out k hlt
    have hrW := (h.below (hbl.mono hB)).alloc (Nat.le_trans hB hbl.size) (.cells #[Value.string (gt xs k).1, Value.string (gt xs k).2.1, Value.string (gt xs k).2.2.1, Value.int .i64 (gt xs k).2.2.2] 69)
    obtain ⟨b, off, rfl, hb, hc⟩ := (h.below (hbl.mono hB)).at_ (by omega)
    have e0 : (wr.alloc (.cells #[Value.string (gt xs k).1, Value.string (gt xs k).2.1, Value.string (gt xs k).2.2.1, Value.int .i64 (gt xs k).2.2.2] 69)).cell? ⟨wr.heap.size, 0, none⟩ = some (Value.string (gt xs k).1) := by rw [World.cell?_alloc_at _ _ _ _ rfl]; rfl
    have e1 : (wr.alloc (.cells #[Value.string (gt xs k).1, Value.string (gt xs k).2.1, Value.string (gt xs k).2.2.1, Value.int .i64 (gt xs k).2.2.2] 69)).cell? ⟨wr.heap.size, 1, none⟩ = some (Value.string (gt xs k).2.1) := by rw [World.cell?_alloc_at _ _ _ _ rfl]; rfl
    have e2 : (wr.alloc (.cells #[Value.string (gt xs k).1, Value.string (gt xs k).2.1, Value.string (gt xs k).2.2.1, Value.int .i64 (gt xs k).2.2.2] 69)).cell? ⟨wr.heap.size, 2, none⟩ = some (Value.string (gt xs k).2.2.1) := by rw [World.cell?_alloc_at _ _ _ _ rfl]; rfl
    have e3 : (wr.alloc (.cells #[Value.string (gt xs k).1, Value.string (gt xs k).2.1, Value.string (gt xs k).2.2.1, Value.int .i64 (gt xs k).2.2.2] 69)).cell? ⟨wr.heap.size, 3, none⟩ = some (Value.int .i64 (gt xs k).2.2.2) := by rw [World.cell?_alloc_at _ _ _ _ rfl]; rfl
    have c0 : wr.cell? ⟨b, off + k * 4, none⟩ = some (Value.string (gt xs k).1) := hc k 0 (by omega) (by omega)
    have c1 : wr.cell? ⟨b, off + k * 4 + 1, none⟩ = some (Value.string (gt xs k).2.1) := hc k 1 (by omega) (by omega)
    have c2 : wr.cell? ⟨b, off + k * 4 + 2, none⟩ = some (Value.string (gt xs k).2.2.1) := hc k 2 (by omega) (by omega)
    have c3 : wr.cell? ⟨b, off + k * 4 + 3, none⟩ = some (Value.int .i64 (gt xs k).2.2.2) := hc k 3 (by omega) (by omega)
    have hsz1 : wr.heap.size < (wr.alloc (.cells #[Value.string (gt xs k).1, Value.string (gt xs k).2.1, Value.string (gt xs k).2.2.1, Value.int .i64 (gt xs k).2.2.2] 69)).heap.size := by simp
    have hblW := hbl.alloc hbl.size (.cells #[Value.string (gt xs k).1, Value.string (gt xs k).2.1, Value.string (gt xs k).2.2.1, Value.int .i64 (gt xs k).2.2.2] 69)
    have hsl := fun W => run_upto (P := Tryz.prog) Tryz.underlying30 info_Item (some ⟨b, off, none⟩) xs.length cap k (by omega) W
    clear hc
    have f0 := fun (z : Bel (wr.alloc (.cells #[Value.string (gt xs k).1, Value.string (gt xs k).2.1, Value.string (gt xs k).2.2.1, Value.int .i64 (gt xs k).2.2.2] 69)).heap.size (wr.alloc (.cells #[Value.string (gt xs k).1, Value.string (gt xs k).2.1, Value.string (gt xs k).2.2.1, Value.int .i64 (gt xs k).2.2.2] 69))) => Bel.cell e0 hsz1 z
    have f1 := fun (z : Bel (wr.alloc (.cells #[Value.string (gt xs k).1, Value.string (gt xs k).2.1, Value.string (gt xs k).2.2.1, Value.int .i64 (gt xs k).2.2.2] 69)).heap.size (wr.alloc (.cells #[Value.string (gt xs k).1, Value.string (gt xs k).2.1, Value.string (gt xs k).2.2.1, Value.int .i64 (gt xs k).2.2.2] 69))) => Bel.cell e1 hsz1 z
    have f2 := fun (z : Bel (wr.alloc (.cells #[Value.string (gt xs k).1, Value.string (gt xs k).2.1, Value.string (gt xs k).2.2.1, Value.int .i64 (gt xs k).2.2.2] 69)).heap.size (wr.alloc (.cells #[Value.string (gt xs k).1, Value.string (gt xs k).2.1, Value.string (gt xs k).2.2.1, Value.int .i64 (gt xs k).2.2.2] 69))) => Bel.cell e2 hsz1 z
    have f3 := fun (z : Bel (wr.alloc (.cells #[Value.string (gt xs k).1, Value.string (gt xs k).2.1, Value.string (gt xs k).2.2.1, Value.int .i64 (gt xs k).2.2.2] 69)).heap.size (wr.alloc (.cells #[Value.string (gt xs k).1, Value.string (gt xs k).2.1, Value.string (gt xs k).2.2.1, Value.int .i64 (gt xs k).2.2.2] 69))) => Bel.cell e3 hsz1 z
    have hcall := fun (z : Bel (wr.alloc (.cells #[Value.string (gt xs k).1, Value.string (gt xs k).2.1, Value.string (gt xs k).2.2.1, Value.int .i64 (gt xs k).2.2.2] 69)).heap.size (wr.alloc (.cells #[Value.string (gt xs k).1, Value.string (gt xs k).2.1, Value.string (gt xs k).2.2.1, Value.int .i64 (gt xs k).2.2.2] 69))) => implItemValid_any (gt xs k).1 (gt xs k).2.1 (gt xs k).2.2.1 (gt xs k).2.2.2 z.u z0 z1 z2
    have hcal2 := fun (z : Bel (wr.alloc (.cells #[Value.string (gt xs k).1, Value.string (gt xs k).2.1, Value.string (gt xs k).2.2.1, Value.int .i64 (gt xs k).2.2.2] 69)).heap.size (wr.alloc (.cells #[Value.string (gt xs k).1, Value.string (gt xs k).2.1, Value.string (gt xs k).2.2.1, Value.int .i64 (gt xs k).2.2.2] 69))) => itemNumber_any (tlA (some ⟨b, off, none⟩) cap 0 4) cap B (xs.take k) (gt xs k).1 z.u ((RdE.head hrW cap k).below (z.h.mono (Nat.le_trans hB (Nat.le_trans hbl.size (Nat.le_of_lt hsz1))))) (Nat.le_trans (Nat.le_trans hB (Nat.le_trans hbl.size (Nat.le_of_lt hsz1))) z.h.size) (by rw [List.length_take]; omega)
    have hlk : (xs.take k).length = k := by simp; omega
    rw [hlk] at hcal2
    have HC2 := Lib.hid hcal2
    clear hlk hcal2
    by_cases hv : ivB (gt xs k) = true
    ·simp only [show ivB ((gt xs k).1, (gt xs k).2.1, (gt xs k).2.2.1, (gt xs k).2.2.2) = true from hv] at hcall
     have HC := Lib.hid hcall
     clear hcall
     by_cases hdis : ∃ j, j < k ∧ (gt xs j).1 = (gt xs k).1
     ·have hge : 0 ≤ itemIx (xs.take k) (gt xs k).1 := by
         obtain ⟨j, hj, e⟩ := hdis
         exact ix_take_some (by omega) hj (seq_true.2 e)
      have hgd : decide (0 ≤ itemIx (xs.take k) (gt xs k).1) = true := decide_eq_true hge
      have HQ := Lib.hid (vdB_bad (Ok := OkI) (mx := 8) hlt (fun hk => by
       obtain ⟨j, hj, e⟩ := hdis
       exact hk.2 j hj e))
      clear hdis hge hv
      go_wp2_with fail
      generalize (wr.alloc (.cells #[Value.string (gt xs k).1, Value.string (gt xs k).2.1, Value.string (gt xs k).2.2.1, Value.int .i64 (gt xs k).2.2.2] 69)) = W at *
      refine wp_region_bel W.heap.size (by kernel_rfl) (by kernel_rfl) ?_
      repeat (go_big_quiet_step (first | (go_at_call 115; exact Calls.bel (Nat.le_refl _) (HC.out _)) | (go_at_call 103; exact Calls.bel (Nat.le_refl _) (HC2.out _))))
      refine wpQuiet_nil ?_
      intro _ hw'
      obtain ⟨z, hw''⟩ := hw'
      subst hw''
      go_wp2_with fail
      go_ret
      exact ⟨ret_bool HQ.out.symm, hblW.trans (z.h.mono hblW.size)⟩
     ·have hneg : itemIx (xs.take k) (gt xs k).1 = -1 := ix_take_none (by omega) (fun j hj => seq_false.2 (fun e => hdis ⟨j, hj, e⟩))
      have hgd : decide (0 ≤ itemIx (xs.take k) (gt xs k).1) = false := decide_eq_false (by omega)
      have HN := Lib.hid (upTo_succ hok.out ⟨hv, fun j hj e => hdis ⟨j, hj, e⟩⟩)
      clear hdis hneg hv
      go_wp2_with fail
      generalize (wr.alloc (.cells #[Value.string (gt xs k).1, Value.string (gt xs k).2.1, Value.string (gt xs k).2.2.1, Value.int .i64 (gt xs k).2.2.2] 69)) = W at *
      refine wp_region_bel W.heap.size (by kernel_rfl) (by kernel_rfl) ?_
      repeat (go_big_quiet_step (first | (go_at_call 115; exact Calls.bel (Nat.le_refl _) (HC.out _)) | (go_at_call 103; exact Calls.bel (Nat.le_refl _) (HC2.out _))))
      refine wpQuiet_nil ?_
      intro _ hw'
      obtain ⟨z, hw''⟩ := hw'
      subst hw''
      go_wp2_with fail
      have hbX := hblW.trans (z.h.mono hblW.size)
      go_roundw
      case rel => exact ⟨k + 1, by omega, HN, by go_num, hbX⟩
      case measure => simp [intOf]; omega
    ·have hv' : ivB (gt xs k) = false := by simpa using hv
     have HQ := Lib.hid (vdB_bad (Ok := OkI) (mx := 8) hlt (fun hk => hv hk.1))
     simp only [show ivB ((gt xs k).1, (gt xs k).2.1, (gt xs k).2.2.1, (gt xs k).2.2.2) = false from hv'] at hcall
     have HC := Lib.hid hcall
     clear hcall hv
     go_wp2_with fail
     generalize (wr.alloc (.cells #[Value.string (gt xs k).1, Value.string (gt xs k).2.1, Value.string (gt xs k).2.2.1, Value.int .i64 (gt xs k).2.2.2] 69)) = W at *
     refine wp_region_bel W.heap.size (by kernel_rfl) (by kernel_rfl) ?_
     repeat (go_big_quiet_step (first | (go_at_call 115; exact Calls.bel (Nat.le_refl _) (HC.out _)) | (go_at_call 103; exact Calls.bel (Nat.le_refl _) (HC2.out _))))
     refine wpQuiet_nil ?_
     intro _ hw'
     obtain ⟨z, hw''⟩ := hw'
     subst hw''
     go_wp2_with fail
     go_ret
     exact ⟨ret_bool HQ.out.symm, hblW.trans (z.h.mono hblW.size)⟩
   ·obtain rfl : k = xs.length := by omega
    have HQ := Lib.hid (show fdB xs = true from vdB_true ⟨hlen, hok.out⟩)
    go_wp2_with fail
    go_ret
    exact ⟨ret_bool HQ.out.symm, hbl⟩
 ·have hd : decide (8 < (xs.length : Int)) = true := decide_eq_true (by omega)
  have HQ := Lib.hid (show fdB xs = false from vdB_long (by omega))
  go_enter Tryz.func65, Tryz.ntmps65
  go_wp2_with fail
  go_ret
  exact ⟨ret_bool HQ.out.symm, Below.refl _ _⟩
end Go.Proofs.YtfnmlffpnmmcdaaGreatDoor
namespace Go.Proofs.YtfnmlffpnmmcdaaGreatDoor
set_option maxRecDepth 100000
open Go.RowKit
theorem implHandleBefore_any (a b c d : ByteArray) (w : World) : Calls Tryz.prog 105 #[.agg #[.string a, .string b], .agg #[.string c, .string d]] w fun e w' => e = .returned (.bool (hbB (a, b) (c, d))) ∧ Below w.heap.size w w' := by
 cases hq : seq b d
 ·have d1 : (b.toList == d.toList) = false := by rw [seq_eql, hq]
  have HQ := Lib.hid (hbB_ne (p := (a, b)) (q := (c, d)) hq)
  clear hq
  go_enter Tryz.func105, Tryz.ntmps105
  go_wp2
  go_ret
  exact ⟨ret_bool (HQ.out.symm), (((Below.refl _ _).alloc (Nat.le_refl _) _).alloc (by simp) _)⟩
 ·have d1 : (b.toList == d.toList) = true := by rw [seq_eql, hq]
  have HQ := Lib.hid (hbB_eq (p := (a, b)) (q := (c, d)) hq)
  clear hq
  go_enter Tryz.func105, Tryz.ntmps105
  go_wp2
  go_ret
  exact ⟨ret_bool (HQ.out.symm), (((Below.refl _ _).alloc (Nat.le_refl _) _).alloc (by simp) _)⟩
theorem specHandleBefore_any (a b c d : ByteArray) (w : World) : Calls Tryz.prog 82 #[.agg #[.string a, .string b], .agg #[.string c, .string d]] w fun e w' => e = .returned (.bool (hbB (a, b) (c, d))) ∧ Below w.heap.size w w' := by
 cases hl : ltS b d
 ·have d0 : Op.bytesLess b.toList d.toList = false := hl
  cases hq : seq b d
  ·have d1 : (b.toList == d.toList) = false := by rw [seq_eql, hq]
   have HQ := Lib.hid ((hbB_ne (p := (a, b)) (q := (c, d)) hq).trans hl)
   clear hq hl
   go_enter Tryz.func82, Tryz.ntmps82
   go_wp2
   go_ret
   exact ⟨ret_bool (HQ.out.symm), (((Below.refl _ _).alloc (Nat.le_refl _) _).alloc (by simp) _)⟩
  ·have d1 : (b.toList == d.toList) = true := by rw [seq_eql, hq]
   have HQ := Lib.hid (hbB_eq (p := (a, b)) (q := (c, d)) hq)
   clear hq hl
   go_enter Tryz.func82, Tryz.ntmps82
   go_wp2
   go_ret
   exact ⟨ret_bool (HQ.out.symm), (((Below.refl _ _).alloc (Nat.le_refl _) _).alloc (by simp) _)⟩
 ·have d0 : Op.bytesLess b.toList d.toList = true := hl
  have HQ := Lib.hid (hbB_true (p := (a, b)) (q := (c, d)) (.inl hl))
  clear hl
  go_enter Tryz.func82, Tryz.ntmps82
  go_wp2
  go_ret
  exact ⟨ret_bool (HQ.out.symm), (((Below.refl _ _).alloc (Nat.le_refl _) _).alloc (by simp) _)⟩
set_option maxRecDepth 100000 in
set_option maxHeartbeats 1600000 in
theorem implFollowersValid_any (A : Option Addr) (cap B : Nat) (fs : List ElHandle) (w : World) (h : RdE 2 encHandle w B A fs) (hB : B ≤ w.heap.size) (hl : fs.length ≤ 140737488351232) (hsz : ∀ k, k < fs.length → (gt fs k).1.size ≤ maxLen ∧ (gt fs k).2.size ≤ maxLen) :
    Calls Tryz.prog 66 #[.slice A fs.length cap] w fun e w' => e = .returned (.bool (fvB fs)) ∧ Below w.heap.size w w' := by
 have HD := Lib.hid hsz
 clear hsz
 by_cases hlen : fs.length ≤ 10
 ·have hd : decide (10 < (fs.length : Int)) = false := decide_eq_false (by omega)
  go_enter Tryz.func66, Tryz.ntmps66
  go_wp2_with fail
  go_loopw [10] (fun i wr => ∃ k : Nat, k ≤ fs.length ∧ Hid (okFUp fs k) ∧ i = .int .i64 k ∧ Below w.heap.size w wr) (fun i _ => fs.length - (intOf i).toNat)
  case atStart => exact ⟨0, Nat.zero_le _, Lib.hid (fun j hj => absurd hj (by omega)), rfl, Below.refl _ _⟩
  case round =>
   obtain ⟨k, hk, hok, rfl, hbl⟩ := hrel
   have hsw := hbl.size
   by_cases hlt : k < fs.length
   ·obtain ⟨z0, z1⟩ := HD.out k hlt
    obtain ⟨b, off, rfl, hb, hc⟩ := (h.below (hbl.mono hB)).at_ (by omega)
    have c0 : wr.cell? ⟨b, off + k * 2, none⟩ = some (Value.string (gt fs k).1) := hc k 0 (by omega) (by omega)
    have c1 : wr.cell? ⟨b, off + k * 2 + 1, none⟩ = some (Value.string (gt fs k).2) := hc k 1 (by omega) (by omega)
    have e0 : (wr.alloc (.cells #[.string (gt fs k).1, .string (gt fs k).2] 29)).cell? ⟨wr.heap.size, 0, none⟩ = some (Value.string (gt fs k).1) := by rw [World.cell?_alloc_at _ _ _ _ rfl]; rfl
    have e1 : (wr.alloc (.cells #[.string (gt fs k).1, .string (gt fs k).2] 29)).cell? ⟨wr.heap.size, 1, none⟩ = some (Value.string (gt fs k).2) := by rw [World.cell?_alloc_at _ _ _ _ rfl]; rfl
    have hsz1 : wr.heap.size < (wr.alloc (.cells #[.string (gt fs k).1, .string (gt fs k).2] 29)).heap.size := by simp
    have hblW := hbl.alloc hbl.size (.cells #[.string (gt fs k).1, .string (gt fs k).2] 29)
    have hbW : b < (wr.alloc (.cells #[.string (gt fs k).1, .string (gt fs k).2] 29)).heap.size := by omega
    have f0 := fun (z : Bel (wr.alloc (.cells #[.string (gt fs k).1, .string (gt fs k).2] 29)).heap.size (wr.alloc (.cells #[.string (gt fs k).1, .string (gt fs k).2] 29))) => Bel.cell e0 hsz1 z
    have f1 := fun (z : Bel (wr.alloc (.cells #[.string (gt fs k).1, .string (gt fs k).2] 29)).heap.size (wr.alloc (.cells #[.string (gt fs k).1, .string (gt fs k).2] 29))) => Bel.cell e1 hsz1 z
    by_cases q1 : hvB ((gt fs k).1, (gt fs k).2) = true
    ·by_cases hk0 : k = 0
     ·have d0 : decide (0 < (k : Int)) = false := decide_eq_false (by omega)
      have d0n : decide (0 < k) = false := decide_eq_false (by omega)
      have HN := Lib.hid (okFUp_succ hok.out ⟨q1, fun h0 => absurd h0 (by omega)⟩)
      clear hk0
      go_wp2_with fail
      generalize (wr.alloc (.cells #[.string (gt fs k).1, .string (gt fs k).2] 29)) = W at *
      refine wp_region_bel W.heap.size (by kernel_rfl) (by kernel_rfl) ?_
      repeat (go_big_quiet_step (first | (go_at_call 64; exact Calls.bel (Nat.le_refl _) (implHandleValid_b _ _ _ (by assumption) (by assumption))) | (go_at_call 105; exact Calls.bel (Nat.le_refl _) (implHandleBefore_any _ _ _ _ _))))
      refine wpQuiet_nil ?_
      intro _ hw'
      obtain ⟨z, hw''⟩ := hw'
      subst hw''
      go_wp2_with fail
      have hbX := hblW.trans (z.h.mono hblW.size)
      go_roundw
      case rel => exact ⟨k + 1, by omega, HN, by go_num, hbX⟩
      case measure => simp [intOf]; omega
     ·have d0 : decide (0 < (k : Int)) = true := decide_eq_true (by omega)
      have d0n : decide (0 < k) = true := decide_eq_true (by omega)
      have hk1 : ((k : Int) - 1).toNat = k - 1 := by omega
      have hk2 : IntKind.i64.wrap ((k : Int) - 1) = (k : Int) - 1 := IntWalk.i64_in _ (by omega)
      have hk4 : (0 : Int) ≤ (k : Int) - 1 := by omega
      have hk5 : (k : Int) - 1 < (fs.length : Int) := by omega
      have p0 : wr.cell? ⟨b, off + (k - 1) * 2, none⟩ = some (Value.string (gt fs (k - 1)).1) := hc (k - 1) 0 (by omega) (by omega)
      have p1 : wr.cell? ⟨b, off + (k - 1) * 2 + 1, none⟩ = some (Value.string (gt fs (k - 1)).2) := hc (k - 1) 1 (by omega) (by omega)
      have g0 := fun (z : Bel (wr.alloc (.cells #[.string (gt fs k).1, .string (gt fs k).2] 29)).heap.size (wr.alloc (.cells #[.string (gt fs k).1, .string (gt fs k).2] 29))) => Bel.cell (cellOn p0 (by show b < _; omega) (Below.push (Below.refl _ _) _)) hbW z
      have g1 := fun (z : Bel (wr.alloc (.cells #[.string (gt fs k).1, .string (gt fs k).2] 29)).heap.size (wr.alloc (.cells #[.string (gt fs k).1, .string (gt fs k).2] 29))) => Bel.cell (cellOn p1 (by show b < _; omega) (Below.push (Below.refl _ _) _)) hbW z
      by_cases q2 : hbB ((gt fs (k - 1)).1, (gt fs (k - 1)).2) ((gt fs k).1, (gt fs k).2) = true
      ·have HN := Lib.hid (okFUp_succ hok.out ⟨q1, fun _ => BefH.of q2⟩)
       clear p0 p1 hk0
       go_wp2_with fail
       generalize (wr.alloc (.cells #[.string (gt fs k).1, .string (gt fs k).2] 29)) = W at *
       refine wp_region_bel W.heap.size (by kernel_rfl) (by kernel_rfl) ?_
       repeat (go_big_quiet_step (first | (go_at_call 64; exact Calls.bel (Nat.le_refl _) (implHandleValid_b _ _ _ (by assumption) (by assumption))) | (go_at_call 105; exact Calls.bel (Nat.le_refl _) (implHandleBefore_any _ _ _ _ _))))
       refine wpQuiet_nil ?_
       intro _ hw'
       obtain ⟨z, hw''⟩ := hw'
       subst hw''
       go_wp2_with fail
       have hbX := hblW.trans (z.h.mono hblW.size)
       go_roundw
       case rel => exact ⟨k + 1, by omega, HN, by go_num, hbX⟩
       case measure => simp [intOf]; omega
      ·have q2' : hbB ((gt fs (k - 1)).1, (gt fs (k - 1)).2) ((gt fs k).1, (gt fs k).2) = false := by simpa using q2
       have HQ := Lib.hid (fvB_bad hlt (fun hh => q2 (hbB_true (hh.2 (by omega)))))
       clear q2 p0 p1 hk0
       go_wp2_with fail
       generalize (wr.alloc (.cells #[.string (gt fs k).1, .string (gt fs k).2] 29)) = W at *
       refine wp_region_bel W.heap.size (by kernel_rfl) (by kernel_rfl) ?_
       repeat (go_big_quiet_step (first | (go_at_call 64; exact Calls.bel (Nat.le_refl _) (implHandleValid_b _ _ _ (by assumption) (by assumption))) | (go_at_call 105; exact Calls.bel (Nat.le_refl _) (implHandleBefore_any _ _ _ _ _))))
       refine wpQuiet_nil ?_
       intro _ hw'
       obtain ⟨z, hw''⟩ := hw'
       subst hw''
       go_wp2_with fail
       go_ret
       exact ⟨ret_bool HQ.out.symm, hblW.trans (z.h.mono hblW.size)⟩
    ·have q1' : hvB ((gt fs k).1, (gt fs k).2) = false := by simpa using q1
     have HQ := Lib.hid (fvB_bad hlt (fun hh => q1 hh.1))
     clear q1
     go_wp2_with fail
     generalize (wr.alloc (.cells #[.string (gt fs k).1, .string (gt fs k).2] 29)) = W at *
     refine wp_region_bel W.heap.size (by kernel_rfl) (by kernel_rfl) ?_
     repeat (go_big_quiet_step (first | (go_at_call 64; exact Calls.bel (Nat.le_refl _) (implHandleValid_b _ _ _ (by assumption) (by assumption))) | (go_at_call 105; exact Calls.bel (Nat.le_refl _) (implHandleBefore_any _ _ _ _ _))))
     refine wpQuiet_nil ?_
     intro _ hw'
     obtain ⟨z, hw''⟩ := hw'
     subst hw''
     go_wp2_with fail
     go_ret
     exact ⟨ret_bool HQ.out.symm, hblW.trans (z.h.mono hblW.size)⟩
   ·obtain rfl : k = fs.length := by omega
    have HQ := Lib.hid (fvB_true hlen hok.out)
    go_wp2_with fail
    go_ret
    exact ⟨ret_bool HQ.out.symm, hbl⟩
 ·have hd : decide (10 < (fs.length : Int)) = true := decide_eq_true (by omega)
  have HQ := Lib.hid (fvB_long (ps := fs) (by omega))
  go_enter Tryz.func66, Tryz.ntmps66
  go_wp2_with fail
  go_ret
  exact ⟨ret_bool HQ.out.symm, Below.refl _ _⟩
set_option maxRecDepth 100000 in
set_option maxHeartbeats 1600000 in
theorem specFollowersValid_any (A : Option Addr) (cap B : Nat) (fs : List ElHandle) (w : World) (h : RdE 2 encHandle w B A fs) (hB : B ≤ w.heap.size) (hl : fs.length ≤ 140737488351232) (hsz : ∀ k, k < fs.length → (gt fs k).1.size ≤ maxLen ∧ (gt fs k).2.size ≤ maxLen) :
    Calls Tryz.prog 80 #[.slice A fs.length cap] w fun e w' => e = .returned (.bool (fvB fs)) ∧ Below w.heap.size w w' := by
 have HD := Lib.hid hsz
 clear hsz
 go_enter Tryz.func80, Tryz.ntmps80
 go_wp2_with fail
 go_loopw [3] (fun i wr => ∃ k : Nat, k ≤ fs.length ∧ Hid (okFUp fs k) ∧ i = .int .i64 k ∧ Below w.heap.size w wr) (fun i _ => fs.length - (intOf i).toNat)
 case atStart => exact ⟨0, Nat.zero_le _, Lib.hid (fun j hj => absurd hj (by omega)), rfl, Below.refl _ _⟩
 case round =>
  obtain ⟨k, hk, hok, rfl, hbl⟩ := hrel
  have hsw := hbl.size
  by_cases hlt : k < fs.length
  ·obtain ⟨z0, z1⟩ := HD.out k hlt
   obtain ⟨b, off, rfl, hb, hc⟩ := (h.below (hbl.mono hB)).at_ (by omega)
   have c0 : wr.cell? ⟨b, off + k * 2, none⟩ = some (Value.string (gt fs k).1) := hc k 0 (by omega) (by omega)
   have c1 : wr.cell? ⟨b, off + k * 2 + 1, none⟩ = some (Value.string (gt fs k).2) := hc k 1 (by omega) (by omega)
   have f0 := fun (z : Bel wr.heap.size wr) => Bel.cell c0 (by show b < _; omega) z
   have f1 := fun (z : Bel wr.heap.size wr) => Bel.cell c1 (by show b < _; omega) z
   have hblW := hbl
   by_cases q1 : hvB ((gt fs k).1, (gt fs k).2) = true
   ·by_cases hk0 : k = 0
    ·have d0 : decide (0 < (k : Int)) = false := decide_eq_false (by omega)
     have d0n : decide (0 < k) = false := decide_eq_false (by omega)
     have HN := Lib.hid (okFUp_succ hok.out ⟨q1, fun h0 => absurd h0 (by omega)⟩)
     clear hk0
     go_wp2_with fail
     refine wp_region_bel wr.heap.size (by kernel_rfl) (by kernel_rfl) ?_
     repeat (go_big_quiet_step (first | (go_at_call 78; exact Calls.bel (Nat.le_refl _) (specHandleValid_b _ _ _ (by assumption) (by assumption))) | (go_at_call 82; exact Calls.bel (Nat.le_refl _) (specHandleBefore_any _ _ _ _ _))))
     refine wpQuiet_nil ?_
     intro _ hw'
     obtain ⟨z, hw''⟩ := hw'
     subst hw''
     go_wp2_with fail
     have hbX := hblW.trans (z.h.mono hblW.size)
     go_roundw
     case rel => exact ⟨k + 1, by omega, HN, by go_num, hbX⟩
     case measure => simp [intOf]; omega
    ·have d0 : decide (0 < (k : Int)) = true := decide_eq_true (by omega)
     have d0n : decide (0 < k) = true := decide_eq_true (by omega)
     have hk1 : ((k : Int) - 1).toNat = k - 1 := by omega
     have hk2 : IntKind.i64.wrap ((k : Int) - 1) = (k : Int) - 1 := IntWalk.i64_in _ (by omega)
     have hk4 : (0 : Int) ≤ (k : Int) - 1 := by omega
     have hk5 : (k : Int) - 1 < (fs.length : Int) := by omega
     have p0 : wr.cell? ⟨b, off + (k - 1) * 2, none⟩ = some (Value.string (gt fs (k - 1)).1) := hc (k - 1) 0 (by omega) (by omega)
     have p1 : wr.cell? ⟨b, off + (k - 1) * 2 + 1, none⟩ = some (Value.string (gt fs (k - 1)).2) := hc (k - 1) 1 (by omega) (by omega)
     have g0 := fun (z : Bel wr.heap.size wr) => Bel.cell p0 (by show b < _; omega) z
     have g1 := fun (z : Bel wr.heap.size wr) => Bel.cell p1 (by show b < _; omega) z
     by_cases q2 : hbB ((gt fs (k - 1)).1, (gt fs (k - 1)).2) ((gt fs k).1, (gt fs k).2) = true
     ·have HN := Lib.hid (okFUp_succ hok.out ⟨q1, fun _ => BefH.of q2⟩)
      clear p0 p1 hk0
      go_wp2_with fail
      refine wp_region_bel wr.heap.size (by kernel_rfl) (by kernel_rfl) ?_
      repeat (go_big_quiet_step (first | (go_at_call 78; exact Calls.bel (Nat.le_refl _) (specHandleValid_b _ _ _ (by assumption) (by assumption))) | (go_at_call 82; exact Calls.bel (Nat.le_refl _) (specHandleBefore_any _ _ _ _ _))))
      refine wpQuiet_nil ?_
      intro _ hw'
      obtain ⟨z, hw''⟩ := hw'
      subst hw''
      go_wp2_with fail
      have hbX := hblW.trans (z.h.mono hblW.size)
      go_roundw
      case rel => exact ⟨k + 1, by omega, HN, by go_num, hbX⟩
      case measure => simp [intOf]; omega
     ·have q2' : hbB ((gt fs (k - 1)).1, (gt fs (k - 1)).2) ((gt fs k).1, (gt fs k).2) = false := by simpa using q2
      have HQ := Lib.hid (fvB_bad hlt (fun hh => q2 (hbB_true (hh.2 (by omega)))))
      clear q2 p0 p1 hk0
      go_wp2_with fail
      refine wp_region_bel wr.heap.size (by kernel_rfl) (by kernel_rfl) ?_
      repeat (go_big_quiet_step (first | (go_at_call 78; exact Calls.bel (Nat.le_refl _) (specHandleValid_b _ _ _ (by assumption) (by assumption))) | (go_at_call 82; exact Calls.bel (Nat.le_refl _) (specHandleBefore_any _ _ _ _ _))))
      refine wpQuiet_nil ?_
      intro _ hw'
      obtain ⟨z, hw''⟩ := hw'
      subst hw''
      go_wp2_with fail
      go_ret
      exact ⟨ret_bool HQ.out.symm, hblW.trans (z.h.mono hblW.size)⟩
   ·have q1' : hvB ((gt fs k).1, (gt fs k).2) = false := by simpa using q1
    have HQ := Lib.hid (fvB_bad hlt (fun hh => q1 hh.1))
    clear q1
    go_wp2_with fail
    refine wp_region_bel wr.heap.size (by kernel_rfl) (by kernel_rfl) ?_
    repeat (go_big_quiet_step (first | (go_at_call 78; exact Calls.bel (Nat.le_refl _) (specHandleValid_b _ _ _ (by assumption) (by assumption))) | (go_at_call 82; exact Calls.bel (Nat.le_refl _) (specHandleBefore_any _ _ _ _ _))))
    refine wpQuiet_nil ?_
    intro _ hw'
    obtain ⟨z, hw''⟩ := hw'
    subst hw''
    go_wp2_with fail
    go_ret
    exact ⟨ret_bool HQ.out.symm, hblW.trans (z.h.mono hblW.size)⟩
  ·obtain rfl : k = fs.length := by omega
   have HQ := Lib.hid (fvB_all hok.out).symm
   go_wp2_with fail
   go_ret
   exact ⟨ret_bool HQ.out.symm, hbl⟩
end Go.Proofs.YtfnmlffpnmmcdaaGreatDoor
namespace Go.Proofs.YtfnmlffpnmmcdaaGreatDoor
set_option maxRecDepth 100000
open Go.RowKit
def brB (who : ElHandle) (is : List ElItem) (fs : List ElHandle) (nx : Int) : Bool := hvB who && (fdB is && (fvB fs && inB nx 0 1000000))
theorem brB_1 {who : ElHandle} (is : List ElItem) (fs : List ElHandle) (nx : Int) (h : hvB who = false) : brB who is fs nx = false := by unfold brB; rw [h]; rfl
theorem brB_2 (who : ElHandle) {is : List ElItem} (fs : List ElHandle) (nx : Int) (h : fdB is = false) : brB who is fs nx = false := by unfold brB; rw [h]; simp
theorem brB_3 (who : ElHandle) (is : List ElItem) {fs : List ElHandle} (nx : Int) (h : fvB fs = false) : brB who is fs nx = false := by unfold brB; rw [h]; simp
theorem brB_4 {who : ElHandle} {is : List ElItem} {fs : List ElHandle} (nx : Int) (h1 : hvB who = true) (h2 : fdB is = true) (h3 : fvB fs = true) : brB who is fs nx = inB nx 0 1000000 := by unfold brB; rw [h1, h2, h3]; rfl
theorem brB_of {who : ElHandle} {is : List ElItem} {fs : List ElHandle} {nx : Int} (h : brB who is fs nx = true) : hvB who = true ∧ fdB is = true ∧ fvB fs = true ∧ inB nx 0 1000000 = true := by
 unfold brB at h; simp only [Bool.and_eq_true] at h; exact h
set_option maxHeartbeats 1600000 in
theorem implBridgeValid_any (who : ElHandle) (I : Option Addr) (ci : Nat) (is : List ElItem) (F : Option Addr) (cf : Nat) (fs : List ElHandle) (nx : Int) (w : World) (B : Nat) (hI : RdE 4 encItem w B I is) (hF : RdE 2 encHandle w B F fs) (hB : B ≤ w.heap.size) (hl : is.length ≤ 140737488351232) (hlf : fs.length ≤ 140737488351232) (hci : is.length ≤ ci) (hiz : ∀ k, k < is.length → (gt is k).1.size ≤ maxLen ∧ (gt is k).2.1.size ≤ maxLen ∧ (gt is k).2.2.1.size ≤ maxLen) (hfz : ∀ k, k < fs.length → (gt fs k).1.size ≤ maxLen ∧ (gt fs k).2.size ≤ maxLen) (hw0 : who.1.size ≤ maxLen) (hw1 : who.2.size ≤ maxLen) :
    Calls Tryz.prog 16 #[.agg #[.string who.1, .string who.2, .slice I is.length ci, .slice F fs.length cf, .int .i64 nx]] w fun e w' => e = .returned (.bool (brB who is fs nx)) ∧ Below w.heap.size w w' := by
 have HIZ := Lib.hid hiz
 have HFZ := Lib.hid hfz
 clear hiz hfz
 have hbA : Below w.heap.size w (w.alloc (.cells #[Value.string who.1, Value.string who.2, Value.slice I is.length ci, Value.slice F fs.length cf, Value.int .i64 nx] 33)) := (Below.refl _ _).alloc (Nat.le_refl _) _
 have hzA : w.heap.size < (w.alloc (.cells #[Value.string who.1, Value.string who.2, Value.slice I is.length ci, Value.slice F fs.length cf, Value.int .i64 nx] 33)).heap.size := by simp
 have q0 : (w.alloc (.cells #[Value.string who.1, Value.string who.2, Value.slice I is.length ci, Value.slice F fs.length cf, Value.int .i64 nx] 33)).cell? ⟨w.heap.size, 0, none⟩ = some (Value.string who.1) := by rw [World.cell?_alloc_at _ _ _ _ rfl]; rfl
 have q1 : (w.alloc (.cells #[Value.string who.1, Value.string who.2, Value.slice I is.length ci, Value.slice F fs.length cf, Value.int .i64 nx] 33)).cell? ⟨w.heap.size, 1, none⟩ = some (Value.string who.2) := by rw [World.cell?_alloc_at _ _ _ _ rfl]; rfl
 have q2 : (w.alloc (.cells #[Value.string who.1, Value.string who.2, Value.slice I is.length ci, Value.slice F fs.length cf, Value.int .i64 nx] 33)).cell? ⟨w.heap.size, 2, none⟩ = some (Value.slice I is.length ci) := by rw [World.cell?_alloc_at _ _ _ _ rfl]; rfl
 have q3 : (w.alloc (.cells #[Value.string who.1, Value.string who.2, Value.slice I is.length ci, Value.slice F fs.length cf, Value.int .i64 nx] 33)).cell? ⟨w.heap.size, 3, none⟩ = some (Value.slice F fs.length cf) := by rw [World.cell?_alloc_at _ _ _ _ rfl]; rfl
 have q4 : (w.alloc (.cells #[Value.string who.1, Value.string who.2, Value.slice I is.length ci, Value.slice F fs.length cf, Value.int .i64 nx] 33)).cell? ⟨w.heap.size, 4, none⟩ = some (Value.int .i64 nx) := by rw [World.cell?_alloc_at _ _ _ _ rfl]; rfl
 have hcall := fun W => implHandleValid_b who.1 who.2 W hw0 hw1
 rw [show (who.1, who.2) = who from rfl] at hcall
 cases h1 : hvB who
 ·have HQ := Lib.hid (brB_1 is fs nx h1)
  rw [h1] at hcall
  have HC := Lib.hid hcall
  clear hcall h1
  go_enter Tryz.func16, Tryz.ntmps16
  go_wp2_with fail
  generalize (w.alloc (.cells #[Value.string who.1, Value.string who.2, Value.slice I is.length ci, Value.slice F fs.length cf, Value.int .i64 nx] 33)) = wA at *
  refine (HC.out wA).mono ?_
  rintro e w1 ⟨rfl, b1⟩
  have k1 := hbA.trans (b1.mono hbA.size)
  have z1 : w.heap.size < w1.heap.size := by have := b1.size; omega
  have q2' := (b1.cell (p := ⟨w.heap.size, 2, none⟩) (by show w.heap.size < _; omega)).trans q2
  have q3' := (b1.cell (p := ⟨w.heap.size, 3, none⟩) (by show w.heap.size < _; omega)).trans q3
  have q4' := (b1.cell (p := ⟨w.heap.size, 4, none⟩) (by show w.heap.size < _; omega)).trans q4
  go_wp2_with fail
  go_ret
  exact ⟨ret_bool HQ.out.symm, k1⟩
 ·rw [h1] at hcall
  have HC := Lib.hid hcall
  clear hcall
  have hcall := fun W h hB => implFeedValid_any I ci B is W h hB hl hci HIZ.out
  cases h2 : fdB is
  ·have HQ := Lib.hid (brB_2 who fs nx h2)
   rw [h2] at hcall
   have HC2 := Lib.hid hcall
   clear hcall h1 h2
   go_enter Tryz.func16, Tryz.ntmps16
   go_wp2_with fail
   generalize (w.alloc (.cells #[Value.string who.1, Value.string who.2, Value.slice I is.length ci, Value.slice F fs.length cf, Value.int .i64 nx] 33)) = wA at *
   refine (HC.out wA).mono ?_
   rintro e w1 ⟨rfl, b1⟩
   have k1 := hbA.trans (b1.mono hbA.size)
   have z1 : w.heap.size < w1.heap.size := by have := b1.size; omega
   have q2' := (b1.cell (p := ⟨w.heap.size, 2, none⟩) (by show w.heap.size < _; omega)).trans q2
   have q3' := (b1.cell (p := ⟨w.heap.size, 3, none⟩) (by show w.heap.size < _; omega)).trans q3
   have q4' := (b1.cell (p := ⟨w.heap.size, 4, none⟩) (by show w.heap.size < _; omega)).trans q4
   go_wp2_with fail
   refine (HC2.out w1 (hI.below (k1.mono hB)) (Nat.le_trans hB k1.size)).mono ?_
   rintro e w2 ⟨rfl, b2⟩
   have k2 := k1.trans (b2.mono k1.size)
   have z2 : w.heap.size < w2.heap.size := by have := b2.size; omega
   have q3'' := (b2.cell (p := ⟨w.heap.size, 3, none⟩) (by show w.heap.size < _; omega)).trans q3'
   have q4'' := (b2.cell (p := ⟨w.heap.size, 4, none⟩) (by show w.heap.size < _; omega)).trans q4'
   go_wp2_with fail
   go_ret
   exact ⟨ret_bool HQ.out.symm, k2⟩
  ·rw [h2] at hcall
   have HC2 := Lib.hid hcall
   clear hcall
   have hcall := fun W h hB => implFollowersValid_any F cf B fs W h hB hlf HFZ.out
   cases h3 : fvB fs
   ·have HQ := Lib.hid (brB_3 who is nx h3)
    rw [h3] at hcall
    have HC3 := Lib.hid hcall
    clear hcall h1 h2 h3
    go_enter Tryz.func16, Tryz.ntmps16
    go_wp2_with fail
    generalize (w.alloc (.cells #[Value.string who.1, Value.string who.2, Value.slice I is.length ci, Value.slice F fs.length cf, Value.int .i64 nx] 33)) = wA at *
    refine (HC.out wA).mono ?_
    rintro e w1 ⟨rfl, b1⟩
    have k1 := hbA.trans (b1.mono hbA.size)
    have z1 : w.heap.size < w1.heap.size := by have := b1.size; omega
    have q2' := (b1.cell (p := ⟨w.heap.size, 2, none⟩) (by show w.heap.size < _; omega)).trans q2
    have q3' := (b1.cell (p := ⟨w.heap.size, 3, none⟩) (by show w.heap.size < _; omega)).trans q3
    have q4' := (b1.cell (p := ⟨w.heap.size, 4, none⟩) (by show w.heap.size < _; omega)).trans q4
    go_wp2_with fail
    refine (HC2.out w1 (hI.below (k1.mono hB)) (Nat.le_trans hB k1.size)).mono ?_
    rintro e w2 ⟨rfl, b2⟩
    have k2 := k1.trans (b2.mono k1.size)
    have z2 : w.heap.size < w2.heap.size := by have := b2.size; omega
    have q3'' := (b2.cell (p := ⟨w.heap.size, 3, none⟩) (by show w.heap.size < _; omega)).trans q3'
    have q4'' := (b2.cell (p := ⟨w.heap.size, 4, none⟩) (by show w.heap.size < _; omega)).trans q4'
    go_wp2_with fail
    refine (HC3.out w2 (hF.below (k2.mono hB)) (Nat.le_trans hB k2.size)).mono ?_
    rintro e w3 ⟨rfl, b3⟩
    have k3 := k2.trans (b3.mono k2.size)
    have q4x := (b3.cell (p := ⟨w.heap.size, 4, none⟩) (by show w.heap.size < _; omega)).trans q4''
    go_wp2_with fail
    go_ret
    exact ⟨ret_bool HQ.out.symm, k3⟩
   ·have HQ := Lib.hid (brB_4 nx h1 h2 h3)
    rw [h3] at hcall
    have HC3 := Lib.hid hcall
    clear hcall h1 h2 h3
    go_enter Tryz.func16, Tryz.ntmps16
    go_wp2_with fail
    generalize (w.alloc (.cells #[Value.string who.1, Value.string who.2, Value.slice I is.length ci, Value.slice F fs.length cf, Value.int .i64 nx] 33)) = wA at *
    refine (HC.out wA).mono ?_
    rintro e w1 ⟨rfl, b1⟩
    have k1 := hbA.trans (b1.mono hbA.size)
    have z1 : w.heap.size < w1.heap.size := by have := b1.size; omega
    have q2' := (b1.cell (p := ⟨w.heap.size, 2, none⟩) (by show w.heap.size < _; omega)).trans q2
    have q3' := (b1.cell (p := ⟨w.heap.size, 3, none⟩) (by show w.heap.size < _; omega)).trans q3
    have q4' := (b1.cell (p := ⟨w.heap.size, 4, none⟩) (by show w.heap.size < _; omega)).trans q4
    go_wp2_with fail
    refine (HC2.out w1 (hI.below (k1.mono hB)) (Nat.le_trans hB k1.size)).mono ?_
    rintro e w2 ⟨rfl, b2⟩
    have k2 := k1.trans (b2.mono k1.size)
    have z2 : w.heap.size < w2.heap.size := by have := b2.size; omega
    have q3'' := (b2.cell (p := ⟨w.heap.size, 3, none⟩) (by show w.heap.size < _; omega)).trans q3'
    have q4'' := (b2.cell (p := ⟨w.heap.size, 4, none⟩) (by show w.heap.size < _; omega)).trans q4'
    go_wp2_with fail
    refine (HC3.out w2 (hF.below (k2.mono hB)) (Nat.le_trans hB k2.size)).mono ?_
    rintro e w3 ⟨rfl, b3⟩
    have k3 := k2.trans (b3.mono k2.size)
    have q4x := (b3.cell (p := ⟨w.heap.size, 4, none⟩) (by show w.heap.size < _; omega)).trans q4''
    go_wp2_with (go_at_call 67; refine (within_any _ _ _ _).mono ?_; rintro e w' ⟨rfl, rfl⟩)
    go_ret
    exact ⟨ret_bool HQ.out.symm, k3⟩
set_option maxHeartbeats 1600000 in
theorem specBridgeValid_any (who : ElHandle) (I : Option Addr) (ci : Nat) (is : List ElItem) (F : Option Addr) (cf : Nat) (fs : List ElHandle) (nx : Int) (w : World) (B : Nat) (hI : RdE 4 encItem w B I is) (hF : RdE 2 encHandle w B F fs) (hB : B ≤ w.heap.size) (hl : is.length ≤ 140737488351232) (hlf : fs.length ≤ 140737488351232) (hiz : ∀ k, k < is.length → (gt is k).1.size ≤ maxLen ∧ (gt is k).2.1.size ≤ maxLen ∧ (gt is k).2.2.1.size ≤ maxLen) (hfz : ∀ k, k < fs.length → (gt fs k).1.size ≤ maxLen ∧ (gt fs k).2.size ≤ maxLen) (hw0 : who.1.size ≤ maxLen) (hw1 : who.2.size ≤ maxLen) :
    Calls Tryz.prog 33 #[.agg #[.string who.1, .string who.2, .slice I is.length ci, .slice F fs.length cf, .int .i64 nx]] w fun e w' => e = .returned (.bool (brB who is fs nx)) ∧ Below w.heap.size w w' := by
 have HIZ := Lib.hid hiz
 have HFZ := Lib.hid hfz
 clear hiz hfz
 have hbA : Below w.heap.size w (w.alloc (.cells #[Value.string who.1, Value.string who.2, Value.slice I is.length ci, Value.slice F fs.length cf, Value.int .i64 nx] 33)) := (Below.refl _ _).alloc (Nat.le_refl _) _
 have hzA : w.heap.size < (w.alloc (.cells #[Value.string who.1, Value.string who.2, Value.slice I is.length ci, Value.slice F fs.length cf, Value.int .i64 nx] 33)).heap.size := by simp
 have q0 : (w.alloc (.cells #[Value.string who.1, Value.string who.2, Value.slice I is.length ci, Value.slice F fs.length cf, Value.int .i64 nx] 33)).cell? ⟨w.heap.size, 0, none⟩ = some (Value.string who.1) := by rw [World.cell?_alloc_at _ _ _ _ rfl]; rfl
 have q1 : (w.alloc (.cells #[Value.string who.1, Value.string who.2, Value.slice I is.length ci, Value.slice F fs.length cf, Value.int .i64 nx] 33)).cell? ⟨w.heap.size, 1, none⟩ = some (Value.string who.2) := by rw [World.cell?_alloc_at _ _ _ _ rfl]; rfl
 have q2 : (w.alloc (.cells #[Value.string who.1, Value.string who.2, Value.slice I is.length ci, Value.slice F fs.length cf, Value.int .i64 nx] 33)).cell? ⟨w.heap.size, 2, none⟩ = some (Value.slice I is.length ci) := by rw [World.cell?_alloc_at _ _ _ _ rfl]; rfl
 have q3 : (w.alloc (.cells #[Value.string who.1, Value.string who.2, Value.slice I is.length ci, Value.slice F fs.length cf, Value.int .i64 nx] 33)).cell? ⟨w.heap.size, 3, none⟩ = some (Value.slice F fs.length cf) := by rw [World.cell?_alloc_at _ _ _ _ rfl]; rfl
 have q4 : (w.alloc (.cells #[Value.string who.1, Value.string who.2, Value.slice I is.length ci, Value.slice F fs.length cf, Value.int .i64 nx] 33)).cell? ⟨w.heap.size, 4, none⟩ = some (Value.int .i64 nx) := by rw [World.cell?_alloc_at _ _ _ _ rfl]; rfl
 have hcall := fun W => specHandleValid_b who.1 who.2 W hw0 hw1
 rw [show (who.1, who.2) = who from rfl] at hcall
 cases h1 : hvB who
 ·have HQ := Lib.hid (brB_1 is fs nx h1)
  rw [h1] at hcall
  have HC := Lib.hid hcall
  clear hcall h1
  go_enter Tryz.func33, Tryz.ntmps33
  go_wp2_with fail
  generalize (w.alloc (.cells #[Value.string who.1, Value.string who.2, Value.slice I is.length ci, Value.slice F fs.length cf, Value.int .i64 nx] 33)) = wA at *
  refine (HC.out wA).mono ?_
  rintro e w1 ⟨rfl, b1⟩
  have k1 := hbA.trans (b1.mono hbA.size)
  have z1 : w.heap.size < w1.heap.size := by have := b1.size; omega
  have q2' := (b1.cell (p := ⟨w.heap.size, 2, none⟩) (by show w.heap.size < _; omega)).trans q2
  have q3' := (b1.cell (p := ⟨w.heap.size, 3, none⟩) (by show w.heap.size < _; omega)).trans q3
  have q4' := (b1.cell (p := ⟨w.heap.size, 4, none⟩) (by show w.heap.size < _; omega)).trans q4
  go_wp2_with fail
  go_ret
  exact ⟨ret_bool HQ.out.symm, k1⟩
 ·rw [h1] at hcall
  have HC := Lib.hid hcall
  clear hcall
  have hcall := fun W h hB => specFeedValid_any I ci B is W h hB hl HIZ.out
  cases h2 : fdB is
  ·have HQ := Lib.hid (brB_2 who fs nx h2)
   rw [h2] at hcall
   have HC2 := Lib.hid hcall
   clear hcall h1 h2
   go_enter Tryz.func33, Tryz.ntmps33
   go_wp2_with fail
   generalize (w.alloc (.cells #[Value.string who.1, Value.string who.2, Value.slice I is.length ci, Value.slice F fs.length cf, Value.int .i64 nx] 33)) = wA at *
   refine (HC.out wA).mono ?_
   rintro e w1 ⟨rfl, b1⟩
   have k1 := hbA.trans (b1.mono hbA.size)
   have z1 : w.heap.size < w1.heap.size := by have := b1.size; omega
   have q2' := (b1.cell (p := ⟨w.heap.size, 2, none⟩) (by show w.heap.size < _; omega)).trans q2
   have q3' := (b1.cell (p := ⟨w.heap.size, 3, none⟩) (by show w.heap.size < _; omega)).trans q3
   have q4' := (b1.cell (p := ⟨w.heap.size, 4, none⟩) (by show w.heap.size < _; omega)).trans q4
   go_wp2_with fail
   refine (HC2.out w1 (hI.below (k1.mono hB)) (Nat.le_trans hB k1.size)).mono ?_
   rintro e w2 ⟨rfl, b2⟩
   have k2 := k1.trans (b2.mono k1.size)
   have z2 : w.heap.size < w2.heap.size := by have := b2.size; omega
   have q3'' := (b2.cell (p := ⟨w.heap.size, 3, none⟩) (by show w.heap.size < _; omega)).trans q3'
   have q4'' := (b2.cell (p := ⟨w.heap.size, 4, none⟩) (by show w.heap.size < _; omega)).trans q4'
   go_wp2_with fail
   go_ret
   exact ⟨ret_bool HQ.out.symm, k2⟩
  ·rw [h2] at hcall
   have HC2 := Lib.hid hcall
   clear hcall
   have hcall := fun W h hB => specFollowersValid_any F cf B fs W h hB hlf HFZ.out
   cases h3 : fvB fs
   ·have HQ := Lib.hid (brB_3 who is nx h3)
    rw [h3] at hcall
    have HC3 := Lib.hid hcall
    clear hcall h1 h2 h3
    go_enter Tryz.func33, Tryz.ntmps33
    go_wp2_with fail
    generalize (w.alloc (.cells #[Value.string who.1, Value.string who.2, Value.slice I is.length ci, Value.slice F fs.length cf, Value.int .i64 nx] 33)) = wA at *
    refine (HC.out wA).mono ?_
    rintro e w1 ⟨rfl, b1⟩
    have k1 := hbA.trans (b1.mono hbA.size)
    have z1 : w.heap.size < w1.heap.size := by have := b1.size; omega
    have q2' := (b1.cell (p := ⟨w.heap.size, 2, none⟩) (by show w.heap.size < _; omega)).trans q2
    have q3' := (b1.cell (p := ⟨w.heap.size, 3, none⟩) (by show w.heap.size < _; omega)).trans q3
    have q4' := (b1.cell (p := ⟨w.heap.size, 4, none⟩) (by show w.heap.size < _; omega)).trans q4
    go_wp2_with fail
    refine (HC2.out w1 (hI.below (k1.mono hB)) (Nat.le_trans hB k1.size)).mono ?_
    rintro e w2 ⟨rfl, b2⟩
    have k2 := k1.trans (b2.mono k1.size)
    have z2 : w.heap.size < w2.heap.size := by have := b2.size; omega
    have q3'' := (b2.cell (p := ⟨w.heap.size, 3, none⟩) (by show w.heap.size < _; omega)).trans q3'
    have q4'' := (b2.cell (p := ⟨w.heap.size, 4, none⟩) (by show w.heap.size < _; omega)).trans q4'
    go_wp2_with fail
    refine (HC3.out w2 (hF.below (k2.mono hB)) (Nat.le_trans hB k2.size)).mono ?_
    rintro e w3 ⟨rfl, b3⟩
    have k3 := k2.trans (b3.mono k2.size)
    have q4x := (b3.cell (p := ⟨w.heap.size, 4, none⟩) (by show w.heap.size < _; omega)).trans q4''
    go_wp2_with fail
    go_ret
    exact ⟨ret_bool HQ.out.symm, k3⟩
   ·have HQ := Lib.hid (brB_4 nx h1 h2 h3)
    rw [h3] at hcall
    have HC3 := Lib.hid hcall
    clear hcall h1 h2 h3
    go_enter Tryz.func33, Tryz.ntmps33
    go_wp2_with fail
    generalize (w.alloc (.cells #[Value.string who.1, Value.string who.2, Value.slice I is.length ci, Value.slice F fs.length cf, Value.int .i64 nx] 33)) = wA at *
    refine (HC.out wA).mono ?_
    rintro e w1 ⟨rfl, b1⟩
    have k1 := hbA.trans (b1.mono hbA.size)
    have z1 : w.heap.size < w1.heap.size := by have := b1.size; omega
    have q2' := (b1.cell (p := ⟨w.heap.size, 2, none⟩) (by show w.heap.size < _; omega)).trans q2
    have q3' := (b1.cell (p := ⟨w.heap.size, 3, none⟩) (by show w.heap.size < _; omega)).trans q3
    have q4' := (b1.cell (p := ⟨w.heap.size, 4, none⟩) (by show w.heap.size < _; omega)).trans q4
    go_wp2_with fail
    refine (HC2.out w1 (hI.below (k1.mono hB)) (Nat.le_trans hB k1.size)).mono ?_
    rintro e w2 ⟨rfl, b2⟩
    have k2 := k1.trans (b2.mono k1.size)
    have z2 : w.heap.size < w2.heap.size := by have := b2.size; omega
    have q3'' := (b2.cell (p := ⟨w.heap.size, 3, none⟩) (by show w.heap.size < _; omega)).trans q3'
    have q4'' := (b2.cell (p := ⟨w.heap.size, 4, none⟩) (by show w.heap.size < _; omega)).trans q4'
    go_wp2_with fail
    refine (HC3.out w2 (hF.below (k2.mono hB)) (Nat.le_trans hB k2.size)).mono ?_
    rintro e w3 ⟨rfl, b3⟩
    have k3 := k2.trans (b3.mono k2.size)
    have q4x := (b3.cell (p := ⟨w.heap.size, 4, none⟩) (by show w.heap.size < _; omega)).trans q4''
    go_wp2_with (go_at_call 81; refine (l1In_any _ _ _ _).mono ?_; rintro e w' ⟨rfl, rfl⟩)
    go_ret
    exact ⟨ret_bool HQ.out.symm, k3⟩
end Go.Proofs.YtfnmlffpnmmcdaaGreatDoor
namespace Go.Proofs.YtfnmlffpnmmcdaaGreatDoor
set_option maxRecDepth 100000
def sp : ByteArray := { data := #[32] }
def ftTo (fs : List ElHandle) : Nat → ByteArray
 | 0 => { data := #[] }
 | k + 1 => (if 0 < k then ftTo fs k ++ sp else ftTo fs k) ++ htOf (gt fs k)
def ftOf (fs : List ElHandle) : ByteArray := if fs.length = 0 then { data := #[110, 111, 110, 101] } else ftTo fs fs.length
theorem ftTo_size (fs : List ElHandle) : ∀ k, (ftTo fs k).size ≤ 19 * k
 | 0 => Nat.le_refl _
 | k + 1 => by
  have h := ftTo_size fs k
  have h2 := htOf_size (gt fs k)
  rw [ftTo]
  split
  ·rw [ByteArray.size_append, ByteArray.size_append]
   have : sp.size = 1 := rfl
   omega
  ·rw [ByteArray.size_append]; omega
theorem ht_pos {h : ElHandle} (hv : hvB h = true) : 0 < (htOf h).size := by
 rw [htOf_yes hv, ByteArray.size_append, ByteArray.size_append, ByteArray.size_append]
 show 0 < 1 + _ + _ + _
 omega
theorem ftTo_pos {fs : List ElHandle} (hv : fvB fs = true) {k : Nat} (hk : k < fs.length) : 0 < (ftTo fs (k + 1)).size := by
 have h := ht_pos (show hvB (gt fs k) = true from (Fv.of hv).ok (gt_mem hk))
 rw [ftTo, ByteArray.size_append]
 omega
theorem ftTo_join (fs : List ElHandle) : ∀ k, 0 < k → k ≤ fs.length → (ftTo fs k).data.toList = Lib.join (((fs.take k).map htOf).map (·.data.toList)) [32]
 | 0, h, _ => absurd h (Nat.lt_irrefl _)
 | k + 1, _, hk => by
  rw [take_snoc (by omega), List.map_append, List.map_append, ftTo]
  by_cases h0 : 0 < k
  ·rw [if_pos h0]
   have ih := ftTo_join fs k h0 (by omega)
   have hd : (ftTo fs k ++ sp ++ htOf (gt fs k)).data.toList = (ftTo fs k).data.toList ++ [32] ++ (htOf (gt fs k)).data.toList := by simp [ByteArray.data_append, sp]
   rw [hd, ih]
   have hl : 0 < ((fs.take k).map htOf).length := by simp; omega
   cases hx : ((fs.take k).map htOf).map (·.data.toList) with
   | nil =>
    have hl2 := congrArg List.length hx
    rw [List.length_map, List.length_nil] at hl2
    omega
   | cons x r =>
    rw [List.cons_append, Lib.join_cons, Lib.join_cons]
    unfold Lib.joinTail
    simp [List.append_assoc]
  ·obtain rfl : k = 0 := by omega
   rw [if_neg h0]
   have hd : (ftTo fs 0 ++ htOf (gt fs 0)).data.toList = (htOf (gt fs 0)).data.toList := by simp [ByteArray.data_append, ftTo]
   rw [hd]
   simp [Lib.join_one]
abbrev ElBr := ElHandle × List ElItem × List ElHandle × Int
def brvB (b : ElBr) : Bool := brB b.1 b.2.1 b.2.2.1 b.2.2.2
def wNo : ByteArray := { data := #[110, 111] }
def wOk : ByteArray := { data := #[111, 107] }
def wSame : ByteArray := { data := #[115, 97, 109, 101] }
def wItem : ByteArray := { data := #[105, 116, 101, 109] }
def wGone : ByteArray := { data := #[103, 111, 110, 101] }
def wFollow : ByteArray := { data := #[102, 111, 108, 108, 111, 119] }
def wLeave : ByteArray := { data := #[108, 101, 97, 118, 101] }
def wFans : ByteArray := { data := #[102, 97, 110, 115] }
def actOf (x : ElAct) : ByteArray := acOf x.1.toNat x.2.1 (x.2.2.1, x.2.2.2.1) x.2.2.2.2
def tellOf (b : ElBr) (items : List ElItem) : ElBr × ByteArray :=
 if (tcK b.2.1 items).length = 0 then (b, wSame)
 else if brB b.1 items b.2.2.1 (b.2.2.2 + 1) = true then ((b.1, items, b.2.2.1, b.2.2.2 + 1), actOf (gt (tcOf b.1 b.2.2.2 b.2.1 items) 0))
 else (b, wNo)
def putOf (b : ElBr) (text : ByteArray) : ElBr × ByteArray :=
 if riOk text = true then (if (mfOf b.2.1 [riOf text]).length = 0 then (b, wNo) else tellOf b (mfOf b.2.1 [riOf text])) else (b, wNo)
def goOf (xs : List ElItem) (key : ByteArray) : List ElItem := xs.filter (fun x => !isI key x)
def takeOf (b : ElBr) (key : ByteArray) : ElBr × ByteArray := if hasK b.2.1 key = true then tellOf b (goOf b.2.1 key) else (b, wNo)
def folwOf (b : ElBr) (text : ByteArray) : ElBr × ByteArray :=
 if rhOk text = true then (if folOk b.2.2.1 (rhOf text) = true then ((b.1, b.2.1, folOf b.2.2.1 (rhOf text), b.2.2.2), wOk) else (b, wNo)) else (b, wNo)
def leavOf (b : ElBr) (text : ByteArray) : ElBr × ByteArray :=
 if rhOk text = true then (if ufOk b.2.2.1 (rhOf text) = true then ((b.1, b.2.1, ufOf b.2.2.1 (rhOf text), b.2.2.2), wOk) else (b, wNo)) else (b, wNo)
def lnW (line : ByteArray) : ByteArray := line.extract 0 (fb line 32 0)
def lnR (line : ByteArray) : ByteArray := line.extract (fb line 32 0 + 1) line.size
def blOf (b : ElBr) (line : ByteArray) : ElBr × ByteArray :=
 if line = wFans then (b, ftOf b.2.2.1)
 else if fb line 32 0 < line.size then
  (if lnW line = wItem then putOf b (lnR line)
   else if lnW line = wGone then takeOf b (lnR line)
   else if lnW line = wFollow then folwOf b (lnR line)
   else if lnW line = wLeave then leavOf b (lnR line)
   else (b, wNo))
 else (b, wNo)
theorem brv_of {b : ElBr} (h : brvB b = true) : hvB b.1 = true ∧ fdB b.2.1 = true ∧ fvB b.2.2.1 = true ∧ inB b.2.2.2 0 1000000 = true := brB_of h
theorem brB_mk {who : ElHandle} {is : List ElItem} {fs : List ElHandle} {nx : Int} (h1 : hvB who = true) (h2 : fdB is = true) (h3 : fvB fs = true) (h4 : inB nx 0 1000000 = true) : brB who is fs nx = true := by rw [brB_4 nx h1 h2 h3]; exact h4
theorem tellOf_valid {b : ElBr} {items : List ElItem} (h : brvB b = true) : brvB (tellOf b items).1 = true := by
 unfold tellOf
 split
 ·exact h
 ·split
  ·next h2 => exact h2
  ·exact h
theorem blOf_valid {b : ElBr} {line : ByteArray} (h : brvB b = true) : brvB (blOf b line).1 = true := by
 obtain ⟨h1, h2, h3, h4⟩ := brv_of h
 unfold blOf
 split
 ·exact h
 ·split
  ·split
   ·unfold putOf
    split
    ·split
     ·exact h
     ·exact tellOf_valid h
    ·exact h
   ·split
    ·unfold takeOf
     split
     ·exact tellOf_valid h
     ·exact h
    ·split
     ·unfold folwOf
      split
      ·split
       ·exact brB_mk h1 h2 (folOf_valid h3) h4
       ·exact h
      ·exact h
     ·split
      ·unfold leavOf
       split
       ·split
        ·exact brB_mk h1 h2 (ufOf_fv h3) h4
        ·exact h
       ·exact h
      ·exact h
  ·exact h
theorem goOf_at {xs : List ElItem} {key : ByteArray} (hv : fdB xs = true) {k : Nat} (he : itemIx xs key = (k : Int)) : k < xs.length ∧ goOf xs key = xs.take k ++ xs.drop (k + 1) := by
 rcases ix_cases (p := isI key) (xs := xs) with ⟨h1, _⟩ | ⟨j, hj, he2, hp, hb⟩
 ·unfold itemIx at he; omega
 ·obtain rfl : j = k := by unfold itemIx at he; omega
  refine ⟨hj, filter_without hj hb hp fun i hi hil => ?_⟩
  cases hq : isI key (gt xs i)
  ·rfl
  ·exact absurd ((seq_true.1 hp).trans (seq_true.1 hq).symm) (((Vd.of hv).2 i hil).2 j hi)
theorem goOf_fd {xs : List ElItem} {key : ByteArray} (hv : fdB xs = true) : fdB (goOf xs key) = true := fd_part hv List.filter_sublist
theorem goOf_len {xs : List ElItem} {key : ByteArray} (hv : fdB xs = true) : (goOf xs key).length = xs.length ↔ hasK xs key = false := by
 cases h : hasK xs key
 ·have hk : goOf xs key = xs := filter_keep fun j hj => by
     rcases ix_cases (p := isI key) (xs := xs) with ⟨_, h2⟩ | ⟨k, _, he, _⟩
     ·exact h2 j hj
     ·have := ix_neg h; unfold itemIx at this; omega
  rw [hk]; simp
 ·obtain ⟨k, hk, he, _⟩ := ix_pos h
  obtain ⟨_, e⟩ := goOf_at hv he
  have := filter_without_len hk
  rw [e]
  simp only [Bool.true_eq_false, iff_false]
  omega
end Go.Proofs.YtfnmlffpnmmcdaaGreatDoor
namespace Go.Proofs.YtfnmlffpnmmcdaaGreatDoor
set_option maxRecDepth 100000
open Go.RowKit
def encStr (s : ByteArray) : Nat → Value := fun _ => .string s
theorem encStr_one (s : ByteArray) (i : Nat) : (encStr s i).oneCell' = true := rfl
theorem info_String : (Tryz.prog.info? 9).map (fun i => (i.zero, i.size, i.bytes)) = some (some (.string ByteArray.empty), 1, 16) := by kernel_rfl
theorem fd_sz {xs : List ElItem} (h : fdB xs = true) : ∀ k, k < xs.length → (gt xs k).1.size ≤ maxLen ∧ (gt xs k).2.1.size ≤ maxLen ∧ (gt xs k).2.2.1.size ≤ maxLen := fun k hk => by
 have h1 := fd_iv h hk
 unfold ivB at h1
 simp only [Bool.and_eq_true] at h1
 have z0 := (Word.of h1.1).2.1
 have z1 := (Text.of h1.2.1).1
 have z2 := (Text.of h1.2.2.2.1).1
 unfold maxLen; omega
end Go.Proofs.YtfnmlffpnmmcdaaGreatDoor
