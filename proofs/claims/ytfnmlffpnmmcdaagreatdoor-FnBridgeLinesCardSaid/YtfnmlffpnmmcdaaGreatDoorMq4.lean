/- Parts of the proof, merged: BridgeV BlPlain StrL ChA App TcA ActV MarkA HtA ActA Loose. -/
import Derived.Test.YtfnmlffpnmmcdaaGreatDoorMq3
import Derived.Test.YtfnmlffpnmmcdaaGreatDoorMq1
import Derived.Lib.Join
import Derived.Test.YtfnmlffpnmmcdaaGreatDoorMq2
import Derived.Laws.CopyRow
import Derived.Deep.DeepAppendRoom
import Derived.Deep.QuietTactic
import Derived.BigQuiet
namespace Go.Proofs.YtfnmlffpnmmcdaaGreatDoor
set_option maxRecDepth 100000
open Go.RowKit
def brB (who : ElHandle) (is : List ElItem) (fs : List ElHandle) (nx : Int) : Bool:=hvB who && (fdB is && (fvB fs && inB nx 0 1000000))
theorem brB_1 {who : ElHandle} (is : List ElItem) (fs : List ElHandle) (nx : Int) (h : hvB who = false) : brB who is fs nx = false:=by unfold brB; rw [h]; rfl
theorem brB_2 (who : ElHandle) {is : List ElItem} (fs : List ElHandle) (nx : Int) (h : fdB is = false) : brB who is fs nx = false:=by unfold brB; rw [h]; simp
theorem brB_3 (who : ElHandle) (is : List ElItem) {fs : List ElHandle} (nx : Int) (h : fvB fs = false) : brB who is fs nx = false:=by unfold brB; rw [h]; simp
theorem brB_4 {who : ElHandle} {is : List ElItem} {fs : List ElHandle} (nx : Int) (h1 : hvB who = true) (h2 : fdB is = true) (h3 : fvB fs = true) : brB who is fs nx = inB nx 0 1000000:=by unfold brB; rw [h1,h2,h3]; rfl
theorem brB_of {who : ElHandle} {is : List ElItem} {fs : List ElHandle} {nx : Int} (h : brB who is fs nx = true) : hvB who = true ∧ fdB is = true ∧ fvB fs = true ∧ inB nx 0 1000000 = true:=by
 unfold brB at h; simp only [Bool.and_eq_true] at h; exact h
set_option maxHeartbeats 1600000 in
theorem implBridgeValid_any (who : ElHandle) (I : Option Addr) (ci : Nat) (is : List ElItem) (F : Option Addr) (cf : Nat) (fs : List ElHandle) (nx : Int) (w : World) (B : Nat) (hI : RdE 4 encItem w B I is) (hF : RdE 2 encHandle w B F fs) (hB : B ≤ w.heap.size) (hl : is.length ≤ 140737488351232) (hlf : fs.length ≤ 140737488351232) (hci : is.length ≤ ci) (hiz : ∀ k,k < is.length → (gt is k).1.size ≤ maxLen ∧ (gt is k).2.1.size ≤ maxLen ∧ (gt is k).2.2.1.size ≤ maxLen) (hfz : ∀ k,k < fs.length → (gt fs k).1.size ≤ maxLen ∧ (gt fs k).2.size ≤ maxLen) (hw0 : who.1.size ≤ maxLen) (hw1 : who.2.size ≤ maxLen) :
    Calls Tryz.prog 16 #[.agg #[.string who.1,.string who.2,.slice I is.length ci,.slice F fs.length cf,.int .i64 nx]] w fun e w' => e = .returned (.bool (brB who is fs nx)) ∧ Below w.heap.size w w':=by
 have HIZ:=Lib.hid hiz;have HFZ:=Lib.hid hfz;clear hiz hfz;have hbA : Below w.heap.size w (w.alloc (.cells #[.string who.1,.string who.2,.slice I is.length ci,.slice F fs.length cf,.int .i64 nx] 33)):=(Below.refl _ _).alloc (Nat.le_refl _) _;have hzA : w.heap.size < (w.alloc (.cells #[.string who.1,.string who.2,.slice I is.length ci,.slice F fs.length cf,.int .i64 nx] 33)).heap.size:=by simp
 have q0 : (w.alloc (.cells #[.string who.1,.string who.2,.slice I is.length ci,.slice F fs.length cf,.int .i64 nx] 33)).cell? ⟨w.heap.size,0,none⟩ = some (Value.string who.1):=by rw [World.cell?_alloc_at _ _ _ _ rfl]; rfl
 have q1 : (w.alloc (.cells #[.string who.1,.string who.2,.slice I is.length ci,.slice F fs.length cf,.int .i64 nx] 33)).cell? ⟨w.heap.size,1,none⟩ = some (Value.string who.2):=by rw [World.cell?_alloc_at _ _ _ _ rfl]; rfl
 have q2 : (w.alloc (.cells #[.string who.1,.string who.2,.slice I is.length ci,.slice F fs.length cf,.int .i64 nx] 33)).cell? ⟨w.heap.size,2,none⟩ = some (Value.slice I is.length ci):=by rw [World.cell?_alloc_at _ _ _ _ rfl]; rfl
 have q3 : (w.alloc (.cells #[.string who.1,.string who.2,.slice I is.length ci,.slice F fs.length cf,.int .i64 nx] 33)).cell? ⟨w.heap.size,3,none⟩ = some (Value.slice F fs.length cf):=by rw [World.cell?_alloc_at _ _ _ _ rfl]; rfl
 have q4 : (w.alloc (.cells #[.string who.1,.string who.2,.slice I is.length ci,.slice F fs.length cf,.int .i64 nx] 33)).cell? ⟨w.heap.size,4,none⟩ = some (Value.int .i64 nx):=by rw [World.cell?_alloc_at _ _ _ _ rfl]; rfl
 have hcall:=fun W => implHandleValid_b who.1 who.2 W hw0 hw1
 rw [show (who.1,who.2) = who from rfl] at hcall;cases h1 : hvB who
 ·have HQ:=Lib.hid (brB_1 is fs nx h1)
  rw [h1] at hcall;have HC:=Lib.hid hcall;clear hcall h1;go_enter Tryz.func16,Tryz.ntmps16
  go_wp2_with fail
  generalize (w.alloc (.cells #[.string who.1,.string who.2,.slice I is.length ci,.slice F fs.length cf,.int .i64 nx] 33)) = wA at *
  refine (HC.out wA).mono ?_;rintro e w1 ⟨rfl,b1⟩;have k1:=hbA.trans (b1.mono hbA.size);have z1 : w.heap.size < w1.heap.size:=by have:=b1.size; omega
  have q2':=(b1.cell (p:=⟨w.heap.size,2,none⟩) (by show w.heap.size < _; omega)).trans q2;have q3':=(b1.cell (p:=⟨w.heap.size,3,none⟩) (by show w.heap.size < _; omega)).trans q3;have q4':=(b1.cell (p:=⟨w.heap.size,4,none⟩) (by show w.heap.size < _; omega)).trans q4
  go_wp2_with fail
  go_ret;exact ⟨ret_bool HQ.out.symm,k1⟩
 ·rw [h1] at hcall
  have HC:=Lib.hid hcall;clear hcall;have hcall:=fun W h hB => implFeedValid_any I ci B is W h hB hl hci HIZ.out
  cases h2 : fdB is
  ·have HQ:=Lib.hid (brB_2 who fs nx h2)
   rw [h2] at hcall;have HC2:=Lib.hid hcall;clear hcall h1 h2;go_enter Tryz.func16,Tryz.ntmps16
   go_wp2_with fail
   generalize (w.alloc (.cells #[.string who.1,.string who.2,.slice I is.length ci,.slice F fs.length cf,.int .i64 nx] 33)) = wA at *
   refine (HC.out wA).mono ?_;rintro e w1 ⟨rfl,b1⟩;have k1:=hbA.trans (b1.mono hbA.size);have z1 : w.heap.size < w1.heap.size:=by have:=b1.size; omega
   have q2':=(b1.cell (p:=⟨w.heap.size,2,none⟩) (by show w.heap.size < _; omega)).trans q2;have q3':=(b1.cell (p:=⟨w.heap.size,3,none⟩) (by show w.heap.size < _; omega)).trans q3;have q4':=(b1.cell (p:=⟨w.heap.size,4,none⟩) (by show w.heap.size < _; omega)).trans q4
   go_wp2_with fail
   refine (HC2.out w1 (hI.below (k1.mono hB)) (Nat.le_trans hB k1.size)).mono ?_;rintro e w2 ⟨rfl,b2⟩;have k2:=k1.trans (b2.mono k1.size);have z2 : w.heap.size < w2.heap.size:=by have:=b2.size; omega
   have q3'':=(b2.cell (p:=⟨w.heap.size,3,none⟩) (by show w.heap.size < _; omega)).trans q3';have q4'':=(b2.cell (p:=⟨w.heap.size,4,none⟩) (by show w.heap.size < _; omega)).trans q4'
   go_wp2_with fail
   go_ret;exact ⟨ret_bool HQ.out.symm,k2⟩
  ·rw [h2] at hcall
   have HC2:=Lib.hid hcall;clear hcall;have hcall:=fun W h hB => implFollowersValid_any F cf B fs W h hB hlf HFZ.out
   cases h3 : fvB fs
   ·have HQ:=Lib.hid (brB_3 who is nx h3)
    rw [h3] at hcall;have HC3:=Lib.hid hcall;clear hcall h1 h2 h3;go_enter Tryz.func16,Tryz.ntmps16
    go_wp2_with fail
    generalize (w.alloc (.cells #[.string who.1,.string who.2,.slice I is.length ci,.slice F fs.length cf,.int .i64 nx] 33)) = wA at *
    refine (HC.out wA).mono ?_;rintro e w1 ⟨rfl,b1⟩;have k1:=hbA.trans (b1.mono hbA.size);have z1 : w.heap.size < w1.heap.size:=by have:=b1.size; omega
    have q2':=(b1.cell (p:=⟨w.heap.size,2,none⟩) (by show w.heap.size < _; omega)).trans q2;have q3':=(b1.cell (p:=⟨w.heap.size,3,none⟩) (by show w.heap.size < _; omega)).trans q3;have q4':=(b1.cell (p:=⟨w.heap.size,4,none⟩) (by show w.heap.size < _; omega)).trans q4
    go_wp2_with fail
    refine (HC2.out w1 (hI.below (k1.mono hB)) (Nat.le_trans hB k1.size)).mono ?_;rintro e w2 ⟨rfl,b2⟩;have k2:=k1.trans (b2.mono k1.size);have z2 : w.heap.size < w2.heap.size:=by have:=b2.size; omega
    have q3'':=(b2.cell (p:=⟨w.heap.size,3,none⟩) (by show w.heap.size < _; omega)).trans q3';have q4'':=(b2.cell (p:=⟨w.heap.size,4,none⟩) (by show w.heap.size < _; omega)).trans q4'
    go_wp2_with fail
    refine (HC3.out w2 (hF.below (k2.mono hB)) (Nat.le_trans hB k2.size)).mono ?_;rintro e w3 ⟨rfl,b3⟩;have k3:=k2.trans (b3.mono k2.size);have q4x:=(b3.cell (p:=⟨w.heap.size,4,none⟩) (by show w.heap.size < _; omega)).trans q4''
    go_wp2_with fail
    go_ret;exact ⟨ret_bool HQ.out.symm,k3⟩
   ·have HQ:=Lib.hid (brB_4 nx h1 h2 h3)
    rw [h3] at hcall;have HC3:=Lib.hid hcall;clear hcall h1 h2 h3;go_enter Tryz.func16,Tryz.ntmps16
    go_wp2_with fail
    generalize (w.alloc (.cells #[.string who.1,.string who.2,.slice I is.length ci,.slice F fs.length cf,.int .i64 nx] 33)) = wA at *
    refine (HC.out wA).mono ?_;rintro e w1 ⟨rfl,b1⟩;have k1:=hbA.trans (b1.mono hbA.size);have z1 : w.heap.size < w1.heap.size:=by have:=b1.size; omega
    have q2':=(b1.cell (p:=⟨w.heap.size,2,none⟩) (by show w.heap.size < _; omega)).trans q2;have q3':=(b1.cell (p:=⟨w.heap.size,3,none⟩) (by show w.heap.size < _; omega)).trans q3;have q4':=(b1.cell (p:=⟨w.heap.size,4,none⟩) (by show w.heap.size < _; omega)).trans q4
    go_wp2_with fail
    refine (HC2.out w1 (hI.below (k1.mono hB)) (Nat.le_trans hB k1.size)).mono ?_;rintro e w2 ⟨rfl,b2⟩;have k2:=k1.trans (b2.mono k1.size);have z2 : w.heap.size < w2.heap.size:=by have:=b2.size; omega
    have q3'':=(b2.cell (p:=⟨w.heap.size,3,none⟩) (by show w.heap.size < _; omega)).trans q3';have q4'':=(b2.cell (p:=⟨w.heap.size,4,none⟩) (by show w.heap.size < _; omega)).trans q4'
    go_wp2_with fail
    refine (HC3.out w2 (hF.below (k2.mono hB)) (Nat.le_trans hB k2.size)).mono ?_;rintro e w3 ⟨rfl,b3⟩;have k3:=k2.trans (b3.mono k2.size);have q4x:=(b3.cell (p:=⟨w.heap.size,4,none⟩) (by show w.heap.size < _; omega)).trans q4''
    go_wp2_with (go_at_call 67; refine (within_any _ _ _ _).mono ?_; rintro e w' ⟨rfl,rfl⟩)
    go_ret;exact ⟨ret_bool HQ.out.symm,k3⟩
set_option maxHeartbeats 1600000 in
theorem specBridgeValid_any (who : ElHandle) (I : Option Addr) (ci : Nat) (is : List ElItem) (F : Option Addr) (cf : Nat) (fs : List ElHandle) (nx : Int) (w : World) (B : Nat) (hI : RdE 4 encItem w B I is) (hF : RdE 2 encHandle w B F fs) (hB : B ≤ w.heap.size) (hl : is.length ≤ 140737488351232) (hlf : fs.length ≤ 140737488351232) (hiz : ∀ k,k < is.length → (gt is k).1.size ≤ maxLen ∧ (gt is k).2.1.size ≤ maxLen ∧ (gt is k).2.2.1.size ≤ maxLen) (hfz : ∀ k,k < fs.length → (gt fs k).1.size ≤ maxLen ∧ (gt fs k).2.size ≤ maxLen) (hw0 : who.1.size ≤ maxLen) (hw1 : who.2.size ≤ maxLen) :
    Calls Tryz.prog 33 #[.agg #[.string who.1,.string who.2,.slice I is.length ci,.slice F fs.length cf,.int .i64 nx]] w fun e w' => e = .returned (.bool (brB who is fs nx)) ∧ Below w.heap.size w w':=by
 have HIZ:=Lib.hid hiz;have HFZ:=Lib.hid hfz;clear hiz hfz;have hbA : Below w.heap.size w (w.alloc (.cells #[.string who.1,.string who.2,.slice I is.length ci,.slice F fs.length cf,.int .i64 nx] 33)):=(Below.refl _ _).alloc (Nat.le_refl _) _;have hzA : w.heap.size < (w.alloc (.cells #[.string who.1,.string who.2,.slice I is.length ci,.slice F fs.length cf,.int .i64 nx] 33)).heap.size:=by simp
 have q0 : (w.alloc (.cells #[.string who.1,.string who.2,.slice I is.length ci,.slice F fs.length cf,.int .i64 nx] 33)).cell? ⟨w.heap.size,0,none⟩ = some (Value.string who.1):=by rw [World.cell?_alloc_at _ _ _ _ rfl]; rfl
 have q1 : (w.alloc (.cells #[.string who.1,.string who.2,.slice I is.length ci,.slice F fs.length cf,.int .i64 nx] 33)).cell? ⟨w.heap.size,1,none⟩ = some (Value.string who.2):=by rw [World.cell?_alloc_at _ _ _ _ rfl]; rfl
 have q2 : (w.alloc (.cells #[.string who.1,.string who.2,.slice I is.length ci,.slice F fs.length cf,.int .i64 nx] 33)).cell? ⟨w.heap.size,2,none⟩ = some (Value.slice I is.length ci):=by rw [World.cell?_alloc_at _ _ _ _ rfl]; rfl
 have q3 : (w.alloc (.cells #[.string who.1,.string who.2,.slice I is.length ci,.slice F fs.length cf,.int .i64 nx] 33)).cell? ⟨w.heap.size,3,none⟩ = some (Value.slice F fs.length cf):=by rw [World.cell?_alloc_at _ _ _ _ rfl]; rfl
 have q4 : (w.alloc (.cells #[.string who.1,.string who.2,.slice I is.length ci,.slice F fs.length cf,.int .i64 nx] 33)).cell? ⟨w.heap.size,4,none⟩ = some (Value.int .i64 nx):=by rw [World.cell?_alloc_at _ _ _ _ rfl]; rfl
 have hcall:=fun W => specHandleValid_b who.1 who.2 W hw0 hw1
 rw [show (who.1,who.2) = who from rfl] at hcall;cases h1 : hvB who
 ·have HQ:=Lib.hid (brB_1 is fs nx h1)
  rw [h1] at hcall;have HC:=Lib.hid hcall;clear hcall h1;go_enter Tryz.func33,Tryz.ntmps33
  go_wp2_with fail
  generalize (w.alloc (.cells #[.string who.1,.string who.2,.slice I is.length ci,.slice F fs.length cf,.int .i64 nx] 33)) = wA at *
  refine (HC.out wA).mono ?_;rintro e w1 ⟨rfl,b1⟩;have k1:=hbA.trans (b1.mono hbA.size);have z1 : w.heap.size < w1.heap.size:=by have:=b1.size; omega
  have q2':=(b1.cell (p:=⟨w.heap.size,2,none⟩) (by show w.heap.size < _; omega)).trans q2;have q3':=(b1.cell (p:=⟨w.heap.size,3,none⟩) (by show w.heap.size < _; omega)).trans q3;have q4':=(b1.cell (p:=⟨w.heap.size,4,none⟩) (by show w.heap.size < _; omega)).trans q4
  go_wp2_with fail
  go_ret;exact ⟨ret_bool HQ.out.symm,k1⟩
 ·rw [h1] at hcall
  have HC:=Lib.hid hcall;clear hcall;have hcall:=fun W h hB => specFeedValid_any I ci B is W h hB hl HIZ.out
  cases h2 : fdB is
  ·have HQ:=Lib.hid (brB_2 who fs nx h2)
   rw [h2] at hcall;have HC2:=Lib.hid hcall;clear hcall h1 h2;go_enter Tryz.func33,Tryz.ntmps33
   go_wp2_with fail
   generalize (w.alloc (.cells #[.string who.1,.string who.2,.slice I is.length ci,.slice F fs.length cf,.int .i64 nx] 33)) = wA at *
   refine (HC.out wA).mono ?_;rintro e w1 ⟨rfl,b1⟩;have k1:=hbA.trans (b1.mono hbA.size);have z1 : w.heap.size < w1.heap.size:=by have:=b1.size; omega
   have q2':=(b1.cell (p:=⟨w.heap.size,2,none⟩) (by show w.heap.size < _; omega)).trans q2;have q3':=(b1.cell (p:=⟨w.heap.size,3,none⟩) (by show w.heap.size < _; omega)).trans q3;have q4':=(b1.cell (p:=⟨w.heap.size,4,none⟩) (by show w.heap.size < _; omega)).trans q4
   go_wp2_with fail
   refine (HC2.out w1 (hI.below (k1.mono hB)) (Nat.le_trans hB k1.size)).mono ?_;rintro e w2 ⟨rfl,b2⟩;have k2:=k1.trans (b2.mono k1.size);have z2 : w.heap.size < w2.heap.size:=by have:=b2.size; omega
   have q3'':=(b2.cell (p:=⟨w.heap.size,3,none⟩) (by show w.heap.size < _; omega)).trans q3';have q4'':=(b2.cell (p:=⟨w.heap.size,4,none⟩) (by show w.heap.size < _; omega)).trans q4'
   go_wp2_with fail
   go_ret;exact ⟨ret_bool HQ.out.symm,k2⟩
  ·rw [h2] at hcall
   have HC2:=Lib.hid hcall;clear hcall;have hcall:=fun W h hB => specFollowersValid_any F cf B fs W h hB hlf HFZ.out
   cases h3 : fvB fs
   ·have HQ:=Lib.hid (brB_3 who is nx h3)
    rw [h3] at hcall;have HC3:=Lib.hid hcall;clear hcall h1 h2 h3;go_enter Tryz.func33,Tryz.ntmps33
    go_wp2_with fail
    generalize (w.alloc (.cells #[.string who.1,.string who.2,.slice I is.length ci,.slice F fs.length cf,.int .i64 nx] 33)) = wA at *
    refine (HC.out wA).mono ?_;rintro e w1 ⟨rfl,b1⟩;have k1:=hbA.trans (b1.mono hbA.size);have z1 : w.heap.size < w1.heap.size:=by have:=b1.size; omega
    have q2':=(b1.cell (p:=⟨w.heap.size,2,none⟩) (by show w.heap.size < _; omega)).trans q2;have q3':=(b1.cell (p:=⟨w.heap.size,3,none⟩) (by show w.heap.size < _; omega)).trans q3;have q4':=(b1.cell (p:=⟨w.heap.size,4,none⟩) (by show w.heap.size < _; omega)).trans q4
    go_wp2_with fail
    refine (HC2.out w1 (hI.below (k1.mono hB)) (Nat.le_trans hB k1.size)).mono ?_;rintro e w2 ⟨rfl,b2⟩;have k2:=k1.trans (b2.mono k1.size);have z2 : w.heap.size < w2.heap.size:=by have:=b2.size; omega
    have q3'':=(b2.cell (p:=⟨w.heap.size,3,none⟩) (by show w.heap.size < _; omega)).trans q3';have q4'':=(b2.cell (p:=⟨w.heap.size,4,none⟩) (by show w.heap.size < _; omega)).trans q4'
    go_wp2_with fail
    refine (HC3.out w2 (hF.below (k2.mono hB)) (Nat.le_trans hB k2.size)).mono ?_;rintro e w3 ⟨rfl,b3⟩;have k3:=k2.trans (b3.mono k2.size);have q4x:=(b3.cell (p:=⟨w.heap.size,4,none⟩) (by show w.heap.size < _; omega)).trans q4''
    go_wp2_with fail
    go_ret;exact ⟨ret_bool HQ.out.symm,k3⟩
   ·have HQ:=Lib.hid (brB_4 nx h1 h2 h3)
    rw [h3] at hcall;have HC3:=Lib.hid hcall;clear hcall h1 h2 h3;go_enter Tryz.func33,Tryz.ntmps33
    go_wp2_with fail
    generalize (w.alloc (.cells #[.string who.1,.string who.2,.slice I is.length ci,.slice F fs.length cf,.int .i64 nx] 33)) = wA at *
    refine (HC.out wA).mono ?_;rintro e w1 ⟨rfl,b1⟩;have k1:=hbA.trans (b1.mono hbA.size);have z1 : w.heap.size < w1.heap.size:=by have:=b1.size; omega
    have q2':=(b1.cell (p:=⟨w.heap.size,2,none⟩) (by show w.heap.size < _; omega)).trans q2;have q3':=(b1.cell (p:=⟨w.heap.size,3,none⟩) (by show w.heap.size < _; omega)).trans q3;have q4':=(b1.cell (p:=⟨w.heap.size,4,none⟩) (by show w.heap.size < _; omega)).trans q4
    go_wp2_with fail
    refine (HC2.out w1 (hI.below (k1.mono hB)) (Nat.le_trans hB k1.size)).mono ?_;rintro e w2 ⟨rfl,b2⟩;have k2:=k1.trans (b2.mono k1.size);have z2 : w.heap.size < w2.heap.size:=by have:=b2.size; omega
    have q3'':=(b2.cell (p:=⟨w.heap.size,3,none⟩) (by show w.heap.size < _; omega)).trans q3';have q4'':=(b2.cell (p:=⟨w.heap.size,4,none⟩) (by show w.heap.size < _; omega)).trans q4'
    go_wp2_with fail
    refine (HC3.out w2 (hF.below (k2.mono hB)) (Nat.le_trans hB k2.size)).mono ?_;rintro e w3 ⟨rfl,b3⟩;have k3:=k2.trans (b3.mono k2.size);have q4x:=(b3.cell (p:=⟨w.heap.size,4,none⟩) (by show w.heap.size < _; omega)).trans q4''
    go_wp2_with (go_at_call 81; refine (l1In_any _ _ _ _).mono ?_; rintro e w' ⟨rfl,rfl⟩)
    go_ret;exact ⟨ret_bool HQ.out.symm,k3⟩
end Go.Proofs.YtfnmlffpnmmcdaaGreatDoor
namespace Go.Proofs.YtfnmlffpnmmcdaaGreatDoor
set_option maxRecDepth 100000
def sp : ByteArray:={ data:=#[32] }
def ftTo (fs : List ElHandle) : Nat → ByteArray
 | 0 => { data:=#[] }
 | k + 1 => (if 0 < k then ftTo fs k ++ sp else ftTo fs k) ++ htOf (gt fs k)
def ftOf (fs : List ElHandle) : ByteArray:=if fs.length = 0 then { data:=#[110,111,110,101] } else ftTo fs fs.length
theorem ftTo_size (fs : List ElHandle) : ∀ k,(ftTo fs k).size ≤ 19 * k
 | 0 => Nat.le_refl _
 | k + 1 => by
  have h:=ftTo_size fs k;have h2:=htOf_size (gt fs k);rw [ftTo]
  split
  ·rw [ByteArray.size_append,ByteArray.size_append]
   have : sp.size = 1:=rfl;omega
  ·rw [ByteArray.size_append]; omega
theorem ht_pos {h : ElHandle} (hv : hvB h = true) : 0 < (htOf h).size:=by
 rw [htOf_yes hv,ByteArray.size_append,ByteArray.size_append,ByteArray.size_append]
 show 0 < 1 + _ + _ + _
 omega
theorem ftTo_pos {fs : List ElHandle} (hv : fvB fs = true) {k : Nat} (hk : k < fs.length) : 0 < (ftTo fs (k + 1)).size:=by
 have h:=ht_pos (show hvB (gt fs k) = true from (Fv.of hv).ok (gt_mem hk));rw [ftTo,ByteArray.size_append];omega
theorem ftTo_join (fs : List ElHandle) : ∀ k,0 < k → k ≤ fs.length → (ftTo fs k).data.toList = Lib.join (((fs.take k).map htOf).map (·.data.toList)) [32]
 | 0,h,_ => absurd h (Nat.lt_irrefl _)
 | k + 1,_,hk => by
  rw [take_snoc (by omega),List.map_append,List.map_append,ftTo];by_cases h0 : 0 < k
  ·rw [if_pos h0]
   have ih:=ftTo_join fs k h0 (by omega);have hd : (ftTo fs k ++ sp ++ htOf (gt fs k)).data.toList = (ftTo fs k).data.toList ++ [32] ++ (htOf (gt fs k)).data.toList:=by simp [ByteArray.data_append,sp]
   rw [hd,ih];have hl : 0 < ((fs.take k).map htOf).length:=by simp; omega
   cases hx : ((fs.take k).map htOf).map (·.data.toList) with
   | nil =>
    have hl2:=congrArg List.length hx;rw [List.length_map,List.length_nil] at hl2;omega
   | cons x r =>
    rw [List.cons_append,Lib.join_cons,Lib.join_cons];unfold Lib.joinTail;simp [List.append_assoc]
  ·obtain rfl : k = 0:=by omega
   rw [if_neg h0];have hd : (ftTo fs 0 ++ htOf (gt fs 0)).data.toList = (htOf (gt fs 0)).data.toList:=by simp [ByteArray.data_append,ftTo]
   rw [hd];simp [Lib.join_one]
abbrev ElBr:=ElHandle × List ElItem × List ElHandle × Int
def brvB (b : ElBr) : Bool:=brB b.1 b.2.1 b.2.2.1 b.2.2.2
def wNo : ByteArray:={ data:=#[110,111] }
def wOk : ByteArray:={ data:=#[111,107] }
def wSame : ByteArray:={ data:=#[115,97,109,101] }
def wItem : ByteArray:={ data:=#[105,116,101,109] }
def wGone : ByteArray:={ data:=#[103,111,110,101] }
def wFollow : ByteArray:={ data:=#[102,111,108,108,111,119] }
def wLeave : ByteArray:={ data:=#[108,101,97,118,101] }
def wFans : ByteArray:={ data:=#[102,97,110,115] }
def actOf (x : ElAct) : ByteArray:=acOf x.1.toNat x.2.1 (x.2.2.1,x.2.2.2.1) x.2.2.2.2
def tellOf (b : ElBr) (items : List ElItem) : ElBr × ByteArray :=
 if (tcK b.2.1 items).length = 0 then (b,wSame)
 else if brB b.1 items b.2.2.1 (b.2.2.2 + 1) = true then ((b.1,items,b.2.2.1,b.2.2.2 + 1),actOf (gt (tcOf b.1 b.2.2.2 b.2.1 items) 0))
 else (b,wNo)
def putOf (b : ElBr) (text : ByteArray) : ElBr × ByteArray :=
 if riOk text = true then (if (mfOf b.2.1 [riOf text]).length = 0 then (b,wNo) else tellOf b (mfOf b.2.1 [riOf text])) else (b,wNo)
def goOf (xs : List ElItem) (key : ByteArray) : List ElItem:=xs.filter (fun x => !isI key x)
def takeOf (b : ElBr) (key : ByteArray) : ElBr × ByteArray:=if hasK b.2.1 key = true then tellOf b (goOf b.2.1 key) else (b,wNo)
def folwOf (b : ElBr) (text : ByteArray) : ElBr × ByteArray :=
 if rhOk text = true then (if folOk b.2.2.1 (rhOf text) = true then ((b.1,b.2.1,folOf b.2.2.1 (rhOf text),b.2.2.2),wOk) else (b,wNo)) else (b,wNo)
def leavOf (b : ElBr) (text : ByteArray) : ElBr × ByteArray :=
 if rhOk text = true then (if ufOk b.2.2.1 (rhOf text) = true then ((b.1,b.2.1,ufOf b.2.2.1 (rhOf text),b.2.2.2),wOk) else (b,wNo)) else (b,wNo)
def lnW (line : ByteArray) : ByteArray:=line.extract 0 (fb line 32 0)
def lnR (line : ByteArray) : ByteArray:=line.extract (fb line 32 0 + 1) line.size
def blOf (b : ElBr) (line : ByteArray) : ElBr × ByteArray :=
 if line = wFans then (b,ftOf b.2.2.1)
 else if fb line 32 0 < line.size then
  (if lnW line = wItem then putOf b (lnR line)
   else if lnW line = wGone then takeOf b (lnR line)
   else if lnW line = wFollow then folwOf b (lnR line)
   else if lnW line = wLeave then leavOf b (lnR line)
   else (b,wNo))
 else (b,wNo)
theorem brv_of {b : ElBr} (h : brvB b = true) : hvB b.1 = true ∧ fdB b.2.1 = true ∧ fvB b.2.2.1 = true ∧ inB b.2.2.2 0 1000000 = true:=brB_of h
theorem brB_mk {who : ElHandle} {is : List ElItem} {fs : List ElHandle} {nx : Int} (h1 : hvB who = true) (h2 : fdB is = true) (h3 : fvB fs = true) (h4 : inB nx 0 1000000 = true) : brB who is fs nx = true:=by rw [brB_4 nx h1 h2 h3]; exact h4
theorem tellOf_valid {b : ElBr} {items : List ElItem} (h : brvB b = true) : brvB (tellOf b items).1 = true:=by
 unfold tellOf
 split
 ·exact h
 ·split
  ·next h2 => exact h2
  ·exact h
theorem blOf_valid {b : ElBr} {line : ByteArray} (h : brvB b = true) : brvB (blOf b line).1 = true:=by
 obtain ⟨h1,h2,h3,h4⟩:=brv_of h;unfold blOf
 split
 ·exact h
 ·split
  ·split
   ·unfold putOf
    split
    ·split
     ·exact h
     ·exact tellOf_valid h
    ·exact h
   ·split
    ·unfold takeOf
     split
     ·exact tellOf_valid h
     ·exact h
    ·split
     ·unfold folwOf
      split
      ·split
       ·exact brB_mk h1 h2 (folOf_valid h3) h4
       ·exact h
      ·exact h
     ·split
      ·unfold leavOf
       split
       ·split
        ·exact brB_mk h1 h2 (ufOf_fv h3) h4
        ·exact h
       ·exact h
      ·exact h
  ·exact h
theorem goOf_at {xs : List ElItem} {key : ByteArray} (hv : fdB xs = true) {k : Nat} (he : itemIx xs key = (k : Int)) : k < xs.length ∧ goOf xs key = xs.take k ++ xs.drop (k + 1):=by
 rcases ix_cases (p:=isI key) (xs:=xs) with ⟨h1,_⟩ | ⟨j,hj,he2,hp,hb⟩
 ·unfold itemIx at he; omega
 ·obtain rfl : j = k:=by unfold itemIx at he; omega
  refine ⟨hj,filter_without hj hb hp fun i hi hil => ?_⟩;cases hq : isI key (gt xs i)
  ·rfl
  ·exact absurd ((seq_true.1 hp).trans (seq_true.1 hq).symm) (((Vd.of hv).2 i hil).2 j hi)
theorem goOf_fd {xs : List ElItem} {key : ByteArray} (hv : fdB xs = true) : fdB (goOf xs key) = true:=fd_part hv List.filter_sublist
theorem goOf_len {xs : List ElItem} {key : ByteArray} (hv : fdB xs = true) : (goOf xs key).length = xs.length ↔ hasK xs key = false:=by
 cases h : hasK xs key
 ·have hk : goOf xs key = xs:=filter_keep fun j hj => by
     rcases ix_cases (p:=isI key) (xs:=xs) with ⟨_,h2⟩ | ⟨k,_,he,_⟩
     ·exact h2 j hj
     ·have:=ix_neg h; unfold itemIx at this; omega
  rw [hk]; simp
 ·obtain ⟨k,hk,he,_⟩:=ix_pos h
  obtain ⟨_,e⟩:=goOf_at hv he;have:=filter_without_len hk;rw [e];simp only [Bool.true_eq_false,iff_false];omega
end Go.Proofs.YtfnmlffpnmmcdaaGreatDoor
namespace Go.Proofs.YtfnmlffpnmmcdaaGreatDoor
set_option maxRecDepth 100000
open Go.RowKit
def encStr (s : ByteArray) : Nat → Value:=fun _ => .string s
theorem encStr_one (s : ByteArray) (i : Nat) : (encStr s i).oneCell' = true:=rfl
theorem info_String : (Tryz.prog.info? 9).map (fun i => (i.zero,i.size,i.bytes)) = some (some (.string ByteArray.empty),1,16):=by kernel_rfl
theorem fd_sz {xs : List ElItem} (h : fdB xs = true) : ∀ k,k < xs.length → (gt xs k).1.size ≤ maxLen ∧ (gt xs k).2.1.size ≤ maxLen ∧ (gt xs k).2.2.1.size ≤ maxLen:=fun k hk => by
 have h1:=fd_iv h hk;unfold ivB at h1;simp only [Bool.and_eq_true] at h1;have z0:=(Word.of h1.1).2.1;have z1:=(Text.of h1.2.1).1;have z2:=(Text.of h1.2.2.2.1).1;unfold maxLen; omega
end Go.Proofs.YtfnmlffpnmmcdaaGreatDoor
namespace Go.Proofs.YtfnmlffpnmmcdaaGreatDoor
set_option maxRecDepth 100000
open Go.RowKit
set_option maxHeartbeats 1600000 in
theorem implNewItems_any (A : Option Addr) (cap : Nat) (T : Option Addr) (capT B : Nat) (bs ns : List ElItem) (w : World) (h : RdE 4 encItem w B A bs) (ht : RdE 4 encItem w B T ns) (hB : B ≤ w.heap.size) (hcap : bs.length ≤ cap) (hcapT : ns.length ≤ capT) (hvb : fdB bs = true) (hva : fdB ns = true) :
    Calls Tryz.prog 133 #[.slice A bs.length cap,.slice T ns.length capT] w fun e w' => ∃ R cR,e = .returned (.slice R (nwOf bs ns).length cR) ∧ OwnE 4 encItem 69 w' w.heap.size R cR (nwOf bs ns) ∧ Below w.heap.size w w':=by
 have hb8:=fd_len hvb;have hn8:=fd_len hva;have HVB:=Lib.hid hvb;have HVA:=Lib.hid hva;clear hvb hva;go_enter Tryz.func133,Tryz.ntmps133
 go_wp2_with fail
 refine (implFeedValid_any A cap B bs w h hB (by omega) hcap (fd_sz HVB.out)).mono ?_;rintro e w1 ⟨rfl,hb1⟩;rw [HVB.out];have hs1:=hb1.size
 go_wp2_with fail
 refine (implFeedValid_any T capT B ns w1 (ht.below (hb1.mono hB)) (Nat.le_trans hB hs1) (by omega) hcapT (fd_sz HVA.out)).mono ?_;rintro e w2 ⟨rfl,hb2⟩;rw [HVA.out];have hb2w:=hb1.trans (hb2.mono hs1);have hs2:=hb2w.size;clear hb1 hb2 hs1
 go_wp2_with fail
 go_loopw [5,18] (fun v i wr => ∃ (k : Nat) (R : Option Addr) (c : Nat) (cur : List ElItem),k ≤ ns.length ∧ i = .int .i64 k ∧ v = .slice R cur.length c ∧ Hid (cur = selTo (nwP bs) ns k) ∧ cur.length ≤ k ∧ OwnE 4 encItem 69 wr w.heap.size R c cur ∧ Below w.heap.size w wr) (fun _ i _ => ns.length - (intOf i).toNat)
 case atStart => exact ⟨0,none,0,[],Nat.zero_le _,rfl,rfl,Lib.hid (selTo_zero _ _).symm,Nat.le_refl _,Own.nil _ _ _ _ _,hb2w⟩
 case round =>
  clear hb2w;obtain ⟨k,R,c,cur,hk,rfl,rfl,hcur,hck,hown,hbl⟩:=hrel;have hsz:=hbl.size;by_cases hklt : k < ns.length
  ·have hrA:=h.below ((hbl.alloc hsz (.cells #[.string (gt ns k).1,.string (gt ns k).2.1,.string (gt ns k).2.2.1,.int .i64 (gt ns k).2.2.2] 69)).mono hB)
   have hiA:=ht.below ((hbl.alloc hsz (.cells #[.string (gt ns k).1,.string (gt ns k).2.1,.string (gt ns k).2.2.1,.int .i64 (gt ns k).2.2.2] 69)).mono hB);have hownA:=Own.below hown ((Below.refl _ _).alloc (Nat.le_refl _) (.cells #[.string (gt ns k).1,.string (gt ns k).2.1,.string (gt ns k).2.2.1,.int .i64 (gt ns k).2.2.2] 69));have hblA:=hbl.alloc hsz (.cells #[.string (gt ns k).1,.string (gt ns k).2.1,.string (gt ns k).2.2.1,.int .i64 (gt ns k).2.2.2] 69);obtain ⟨b,off,rfl,hb,hc⟩:=(ht.below (hbl.mono hB)).at_ (by omega);have c0 : wr.cell? ⟨b,off + k * 4,none⟩ = some (Value.string (gt ns k).1):=hc k 0 (by omega) (by omega);have c1 : wr.cell? ⟨b,off + k * 4 + 1,none⟩ = some (Value.string (gt ns k).2.1):=hc k 1 (by omega) (by omega);have c2 : wr.cell? ⟨b,off + k * 4 + 2,none⟩ = some (Value.string (gt ns k).2.2.1):=hc k 2 (by omega) (by omega);have c3 : wr.cell? ⟨b,off + k * 4 + 3,none⟩ = some (Value.int .i64 (gt ns k).2.2.2):=hc k 3 (by omega) (by omega);have e0 : (wr.alloc (.cells #[.string (gt ns k).1,.string (gt ns k).2.1,.string (gt ns k).2.2.1,.int .i64 (gt ns k).2.2.2] 69)).cell? ⟨wr.heap.size,0,none⟩ = some (Value.string (gt ns k).1):=by rw [World.cell?_alloc_at _ _ _ _ rfl]; rfl
   have e1 : (wr.alloc (.cells #[.string (gt ns k).1,.string (gt ns k).2.1,.string (gt ns k).2.2.1,.int .i64 (gt ns k).2.2.2] 69)).cell? ⟨wr.heap.size,1,none⟩ = some (Value.string (gt ns k).2.1):=by rw [World.cell?_alloc_at _ _ _ _ rfl]; rfl
   have e2 : (wr.alloc (.cells #[.string (gt ns k).1,.string (gt ns k).2.1,.string (gt ns k).2.2.1,.int .i64 (gt ns k).2.2.2] 69)).cell? ⟨wr.heap.size,2,none⟩ = some (Value.string (gt ns k).2.2.1):=by rw [World.cell?_alloc_at _ _ _ _ rfl]; rfl
   have e3 : (wr.alloc (.cells #[.string (gt ns k).1,.string (gt ns k).2.1,.string (gt ns k).2.2.1,.int .i64 (gt ns k).2.2.2] 69)).cell? ⟨wr.heap.size,3,none⟩ = some (Value.int .i64 (gt ns k).2.2.2):=by rw [World.cell?_alloc_at _ _ _ _ rfl]; rfl
   have hszA : wr.heap.size < (wr.alloc (.cells #[.string (gt ns k).1,.string (gt ns k).2.1,.string (gt ns k).2.2.1,.int .i64 (gt ns k).2.2.2] 69)).heap.size:=by simp
   clear hc hown hbl;have HIX:=Lib.hid (fun z hz => itemNumber_any A cap B bs (gt ns k).1 (wr.alloc (.cells #[.string (gt ns k).1,.string (gt ns k).2.1,.string (gt ns k).2.2.1,.int .i64 (gt ns k).2.2.2] 69)) hrA z hz)
   go_wp2_with fail
   generalize (wr.alloc (.cells #[.string (gt ns k).1,.string (gt ns k).2.1,.string (gt ns k).2.2.1,.int .i64 (gt ns k).2.2.2] 69)) = wA at *
   refine (HIX.out (by omega) (by omega)).mono ?_;rintro e w3 ⟨rfl,hb3⟩;clear HIX;have hbl3:=hblA.trans (hb3.mono (by omega));have hs3:=hbl3.size;have hown3:=Own.below hownA hb3;have f0:=(hb3.cell (by show wr.heap.size < _; omega)).trans e0;have f1:=(hb3.cell (by show wr.heap.size < _; omega)).trans e1;have f2:=(hb3.cell (by show wr.heap.size < _; omega)).trans e2;have f3:=(hb3.cell (by show wr.heap.size < _; omega)).trans e3;clear e0 e1 e2 e3 c0 c1 c2 c3;cases hq : hasK bs (gt ns k).1
   ·have hx:=ix_neg hq
    rw [hx];clear hx;have HN:=Lib.hid (selTo_is (p:=(nwP bs)) hklt (show (!hasK bs (gt ns k).1) = true by rw [hq]; rfl));clear hq
    go_wp2_with (at_builtin; refine wpList_app rfl (.tmp 27) (.tmp 29) _ rfl w.heap.size 69 _ 4 56 Tryz.underlying30 info_Item rfl (by omega) R (some ⟨w3.heap.size,0,none⟩) cur.length c 1 1 (w3.heap.size + 1) (cE 4 encItem cur) (encItem (gt ns k)) rfl rfl (Own.below hown3 ((Below.refl _ _).alloc (Nat.le_refl _) _)) (rd_elem _ _ _ _ (fun j hj => by rcases (by omega : j = 0 ∨ j = 1 ∨ j = 2 ∨ j = 3) with rfl | rfl | rfl | rfl <;> rfl)) (fun _ _ => encItem_one _ _) (by simp only [maxLen]; omega) (by omega) (by first | omega | (simp; done) | (simp; omega)) ?_; intro T1 cap1 w2 hown2 hg2)
    go_roundw
    case rel => exact ⟨k + 1,T1,cap1,cur ++ [(gt ns k)],by omega,by go_num,by rw [List.length_append]; rfl,Lib.hid (by rw [HN.out,← hcur.out]),by rw [List.length_append]; simp; omega,OwnE.snoc (by omega) hown2,hbl3.trans (((Below.refl _ _).alloc hs3 _).trans (grown_below hg2 (fun b hb => (Own.lt hown3 hb).1) (by first | omega | (simp; done) | (simp; omega))))⟩
    case measure => simp [intOf]; omega
   ·obtain ⟨j,hj,hx,_,_⟩:=ix_pos hq
    rw [hx];have gj : decide ((j : Int) < 0) = false:=decide_eq_false (by omega);clear hx hj;have HN:=Lib.hid (selTo_not (p:=(nwP bs)) hklt (show (!hasK bs (gt ns k).1) = false by rw [hq]; rfl));clear hq
    go_wp2_with fail
    go_roundw
    case rel => exact ⟨k + 1,R,c,cur,by omega,by go_num,rfl,Lib.hid (by rw [HN.out,← hcur.out]),by omega,hown3,hbl3⟩
    case measure => simp [intOf]; omega
  ·obtain rfl : k = ns.length:=by omega
   go_wp2_with fail
   go_ret;have hfin : cur = nwOf bs ns:=by rw [hcur.out]; rw [selTo_all]; rfl
   subst hfin;exact ⟨_,_,rfl,hown,hbl⟩
set_option maxHeartbeats 1600000 in
theorem implGoneKeys_any (A : Option Addr) (cap : Nat) (T : Option Addr) (capT B : Nat) (bs ns : List ElItem) (w : World) (h : RdE 4 encItem w B A bs) (ht : RdE 4 encItem w B T ns) (hB : B ≤ w.heap.size) (hcap : bs.length ≤ cap) (hcapT : ns.length ≤ capT) (hvb : fdB bs = true) (hva : fdB ns = true) :
    Calls Tryz.prog 161 #[.slice A bs.length cap,.slice T ns.length capT] w fun e w' => ∃ R cR,e = .returned (.slice R (gkOf bs ns).length cR) ∧ OwnE 1 encStr 9 w' w.heap.size R cR (gkOf bs ns) ∧ Below w.heap.size w w':=by
 have hb8:=fd_len hvb;have hn8:=fd_len hva;have HVB:=Lib.hid hvb;have HVA:=Lib.hid hva;clear hvb hva;go_enter Tryz.func161,Tryz.ntmps161
 go_wp2_with fail
 refine (implFeedValid_any A cap B bs w h hB (by omega) hcap (fd_sz HVB.out)).mono ?_;rintro e w1 ⟨rfl,hb1⟩;rw [HVB.out];have hs1:=hb1.size
 go_wp2_with fail
 refine (implFeedValid_any T capT B ns w1 (ht.below (hb1.mono hB)) (Nat.le_trans hB hs1) (by omega) hcapT (fd_sz HVA.out)).mono ?_;rintro e w2 ⟨rfl,hb2⟩;rw [HVA.out];have hb2w:=hb1.trans (hb2.mono hs1);have hs2:=hb2w.size;clear hb1 hb2 hs1
 go_wp2_with fail
 go_loopw [5,18] (fun v i wr => ∃ (k : Nat) (R : Option Addr) (c : Nat) (cur : List ByteArray),k ≤ bs.length ∧ i = .int .i64 k ∧ v = .slice R cur.length c ∧ Hid (cur = (selTo (nwP ns) bs k).map (·.1)) ∧ cur.length ≤ k ∧ OwnE 1 encStr 9 wr w.heap.size R c cur ∧ Below w.heap.size w wr) (fun _ i _ => bs.length - (intOf i).toNat)
 case atStart => exact ⟨0,none,0,[],Nat.zero_le _,rfl,rfl,Lib.hid rfl,Nat.le_refl _,Own.nil _ _ _ _ _,hb2w⟩
 case round =>
  clear hb2w;obtain ⟨k,R,c,cur,hk,rfl,rfl,hcur,hck,hown,hbl⟩:=hrel;have hsz:=hbl.size;by_cases hklt : k < bs.length
  ·have hrA:=ht.below ((hbl.alloc hsz (.cells #[.string (gt bs k).1,.string (gt bs k).2.1,.string (gt bs k).2.2.1,.int .i64 (gt bs k).2.2.2] 69)).mono hB)
   have hiA:=h.below ((hbl.alloc hsz (.cells #[.string (gt bs k).1,.string (gt bs k).2.1,.string (gt bs k).2.2.1,.int .i64 (gt bs k).2.2.2] 69)).mono hB);have hownA:=Own.below hown ((Below.refl _ _).alloc (Nat.le_refl _) (.cells #[.string (gt bs k).1,.string (gt bs k).2.1,.string (gt bs k).2.2.1,.int .i64 (gt bs k).2.2.2] 69));have hblA:=hbl.alloc hsz (.cells #[.string (gt bs k).1,.string (gt bs k).2.1,.string (gt bs k).2.2.1,.int .i64 (gt bs k).2.2.2] 69);obtain ⟨b,off,rfl,hb,hc⟩:=(h.below (hbl.mono hB)).at_ (by omega);have c0 : wr.cell? ⟨b,off + k * 4,none⟩ = some (Value.string (gt bs k).1):=hc k 0 (by omega) (by omega);have c1 : wr.cell? ⟨b,off + k * 4 + 1,none⟩ = some (Value.string (gt bs k).2.1):=hc k 1 (by omega) (by omega);have c2 : wr.cell? ⟨b,off + k * 4 + 2,none⟩ = some (Value.string (gt bs k).2.2.1):=hc k 2 (by omega) (by omega);have c3 : wr.cell? ⟨b,off + k * 4 + 3,none⟩ = some (Value.int .i64 (gt bs k).2.2.2):=hc k 3 (by omega) (by omega);have e0 : (wr.alloc (.cells #[.string (gt bs k).1,.string (gt bs k).2.1,.string (gt bs k).2.2.1,.int .i64 (gt bs k).2.2.2] 69)).cell? ⟨wr.heap.size,0,none⟩ = some (Value.string (gt bs k).1):=by rw [World.cell?_alloc_at _ _ _ _ rfl]; rfl
   have e1 : (wr.alloc (.cells #[.string (gt bs k).1,.string (gt bs k).2.1,.string (gt bs k).2.2.1,.int .i64 (gt bs k).2.2.2] 69)).cell? ⟨wr.heap.size,1,none⟩ = some (Value.string (gt bs k).2.1):=by rw [World.cell?_alloc_at _ _ _ _ rfl]; rfl
   have e2 : (wr.alloc (.cells #[.string (gt bs k).1,.string (gt bs k).2.1,.string (gt bs k).2.2.1,.int .i64 (gt bs k).2.2.2] 69)).cell? ⟨wr.heap.size,2,none⟩ = some (Value.string (gt bs k).2.2.1):=by rw [World.cell?_alloc_at _ _ _ _ rfl]; rfl
   have e3 : (wr.alloc (.cells #[.string (gt bs k).1,.string (gt bs k).2.1,.string (gt bs k).2.2.1,.int .i64 (gt bs k).2.2.2] 69)).cell? ⟨wr.heap.size,3,none⟩ = some (Value.int .i64 (gt bs k).2.2.2):=by rw [World.cell?_alloc_at _ _ _ _ rfl]; rfl
   have hszA : wr.heap.size < (wr.alloc (.cells #[.string (gt bs k).1,.string (gt bs k).2.1,.string (gt bs k).2.2.1,.int .i64 (gt bs k).2.2.2] 69)).heap.size:=by simp
   clear hc hown hbl;have HIX:=Lib.hid (fun z hz => itemNumber_any T capT B ns (gt bs k).1 (wr.alloc (.cells #[.string (gt bs k).1,.string (gt bs k).2.1,.string (gt bs k).2.2.1,.int .i64 (gt bs k).2.2.2] 69)) hrA z hz)
   go_wp2_with fail
   generalize (wr.alloc (.cells #[.string (gt bs k).1,.string (gt bs k).2.1,.string (gt bs k).2.2.1,.int .i64 (gt bs k).2.2.2] 69)) = wA at *
   refine (HIX.out (by omega) (by omega)).mono ?_;rintro e w3 ⟨rfl,hb3⟩;clear HIX;have hbl3:=hblA.trans (hb3.mono (by omega));have hs3:=hbl3.size;have hown3:=Own.below hownA hb3;have f0:=(hb3.cell (by show wr.heap.size < _; omega)).trans e0;have f1:=(hb3.cell (by show wr.heap.size < _; omega)).trans e1;have f2:=(hb3.cell (by show wr.heap.size < _; omega)).trans e2;have f3:=(hb3.cell (by show wr.heap.size < _; omega)).trans e3;clear e0 e1 e2 e3 c0 c1 c2 c3;cases hq : hasK ns (gt bs k).1
   ·have hx:=ix_neg hq
    rw [hx];clear hx;have HN:=Lib.hid (selTo_is (p:=(nwP ns)) hklt (show (!hasK ns (gt bs k).1) = true by rw [hq]; rfl));clear hq
    go_wp2_with (at_builtin; refine wpList_app rfl (.tmp 27) (.tmp 30) _ rfl w.heap.size 9 _ 1 16 Tryz.underlying51 info_String rfl (by omega) R (some ⟨w3.heap.size,0,none⟩) cur.length c 1 1 (w3.heap.size + 1) (cE 1 encStr cur) (encStr (gt bs k).1) rfl rfl (Own.below hown3 ((Below.refl _ _).alloc (Nat.le_refl _) _)) (rd_elem _ _ _ _ (fun j hj => by rcases (by omega : j = 0) with rfl; rfl)) (fun _ _ => encStr_one _ _) (by simp only [maxLen]; omega) (by omega) (by first | omega | (simp; done) | (simp; omega)) ?_; intro T1 cap1 w2 hown2 hg2)
    go_roundw
    case rel => exact ⟨k + 1,T1,cap1,cur ++ [(gt bs k).1],by omega,by go_num,by rw [List.length_append]; rfl,Lib.hid (by rw [HN.out,List.map_append,← hcur.out]; rfl),by rw [List.length_append]; simp; omega,OwnE.snoc (by omega) hown2,hbl3.trans (((Below.refl _ _).alloc hs3 _).trans (grown_below hg2 (fun b hb => (Own.lt hown3 hb).1) (by first | omega | (simp; done) | (simp; omega))))⟩
    case measure => simp [intOf]; omega
   ·obtain ⟨j,hj,hx,_,_⟩:=ix_pos hq
    rw [hx];have gj : decide ((j : Int) < 0) = false:=decide_eq_false (by omega);clear hx hj;have HN:=Lib.hid (selTo_not (p:=(nwP ns)) hklt (show (!hasK ns (gt bs k).1) = false by rw [hq]; rfl));clear hq
    go_wp2_with fail
    go_roundw
    case rel => exact ⟨k + 1,R,c,cur,by omega,by go_num,rfl,Lib.hid (by rw [HN.out,← hcur.out]),by omega,hown3,hbl3⟩
    case measure => simp [intOf]; omega
  ·obtain rfl : k = bs.length:=by omega
   go_wp2_with fail
   go_ret;have hfin : cur = gkOf bs ns:=by rw [hcur.out]; unfold gkOf nwOf; rw [selTo_all]
   subst hfin;exact ⟨_,_,rfl,hown,hbl⟩
set_option maxHeartbeats 1600000 in
theorem implChangedItems_any (A : Option Addr) (cap : Nat) (T : Option Addr) (capT B : Nat) (bs ns : List ElItem) (w : World) (h : RdE 4 encItem w B A bs) (ht : RdE 4 encItem w B T ns) (hB : B ≤ w.heap.size) (hcap : bs.length ≤ cap) (hcapT : ns.length ≤ capT) (hvb : fdB bs = true) (hva : fdB ns = true) :
    Calls Tryz.prog 160 #[.slice A bs.length cap,.slice T ns.length capT] w fun e w' => ∃ R cR,e = .returned (.slice R (chOf bs ns).length cR) ∧ OwnE 4 encItem 69 w' w.heap.size R cR (chOf bs ns) ∧ Below w.heap.size w w':=by
 have hb8:=fd_len hvb;have hn8:=fd_len hva;have HVB:=Lib.hid hvb;have HVA:=Lib.hid hva;clear hvb hva;go_enter Tryz.func160,Tryz.ntmps160
 go_wp2_with fail
 refine (implFeedValid_any A cap B bs w h hB (by omega) hcap (fd_sz HVB.out)).mono ?_;rintro e w1 ⟨rfl,hb1⟩;rw [HVB.out];have hs1:=hb1.size
 go_wp2_with fail
 refine (implFeedValid_any T capT B ns w1 (ht.below (hb1.mono hB)) (Nat.le_trans hB hs1) (by omega) hcapT (fd_sz HVA.out)).mono ?_;rintro e w2 ⟨rfl,hb2⟩;rw [HVA.out];have hb2w:=hb1.trans (hb2.mono hs1);have hs2:=hb2w.size;clear hb1 hb2 hs1
 go_wp2_with fail
 go_loopw [5,8,19] (fun v _ i wr => ∃ (k : Nat) (R : Option Addr) (c : Nat) (cur : List ElItem),k ≤ ns.length ∧ i = .int .i64 k ∧ v = .slice R cur.length c ∧ Hid (cur = selTo (chP bs) ns k) ∧ cur.length ≤ k ∧ OwnE 4 encItem 69 wr w.heap.size R c cur ∧ Below w.heap.size w wr) (fun _ _ i _ => ns.length - (intOf i).toNat)
 case atStart => exact ⟨0,none,0,[],Nat.zero_le _,rfl,rfl,Lib.hid (selTo_zero _ _).symm,Nat.le_refl _,Own.nil _ _ _ _ _,hb2w⟩
 case round =>
  clear hb2w;obtain ⟨k,R,c,cur,hk,rfl,rfl,hcur,hck,hown,hbl⟩:=hrel;have hsz:=hbl.size;by_cases hklt : k < ns.length
  ·have hrA:=h.below ((hbl.alloc hsz (.cells #[.string (gt ns k).1,.string (gt ns k).2.1,.string (gt ns k).2.2.1,.int .i64 (gt ns k).2.2.2] 69)).mono hB)
   have hiA:=ht.below ((hbl.alloc hsz (.cells #[.string (gt ns k).1,.string (gt ns k).2.1,.string (gt ns k).2.2.1,.int .i64 (gt ns k).2.2.2] 69)).mono hB);have hownA:=Own.below hown ((Below.refl _ _).alloc (Nat.le_refl _) (.cells #[.string (gt ns k).1,.string (gt ns k).2.1,.string (gt ns k).2.2.1,.int .i64 (gt ns k).2.2.2] 69));have hblA:=hbl.alloc hsz (.cells #[.string (gt ns k).1,.string (gt ns k).2.1,.string (gt ns k).2.2.1,.int .i64 (gt ns k).2.2.2] 69);obtain ⟨b,off,rfl,hb,hc⟩:=(ht.below (hbl.mono hB)).at_ (by omega);have c0 : wr.cell? ⟨b,off + k * 4,none⟩ = some (Value.string (gt ns k).1):=hc k 0 (by omega) (by omega);have c1 : wr.cell? ⟨b,off + k * 4 + 1,none⟩ = some (Value.string (gt ns k).2.1):=hc k 1 (by omega) (by omega);have c2 : wr.cell? ⟨b,off + k * 4 + 2,none⟩ = some (Value.string (gt ns k).2.2.1):=hc k 2 (by omega) (by omega);have c3 : wr.cell? ⟨b,off + k * 4 + 3,none⟩ = some (Value.int .i64 (gt ns k).2.2.2):=hc k 3 (by omega) (by omega);have e0 : (wr.alloc (.cells #[.string (gt ns k).1,.string (gt ns k).2.1,.string (gt ns k).2.2.1,.int .i64 (gt ns k).2.2.2] 69)).cell? ⟨wr.heap.size,0,none⟩ = some (Value.string (gt ns k).1):=by rw [World.cell?_alloc_at _ _ _ _ rfl]; rfl
   have e1 : (wr.alloc (.cells #[.string (gt ns k).1,.string (gt ns k).2.1,.string (gt ns k).2.2.1,.int .i64 (gt ns k).2.2.2] 69)).cell? ⟨wr.heap.size,1,none⟩ = some (Value.string (gt ns k).2.1):=by rw [World.cell?_alloc_at _ _ _ _ rfl]; rfl
   have e2 : (wr.alloc (.cells #[.string (gt ns k).1,.string (gt ns k).2.1,.string (gt ns k).2.2.1,.int .i64 (gt ns k).2.2.2] 69)).cell? ⟨wr.heap.size,2,none⟩ = some (Value.string (gt ns k).2.2.1):=by rw [World.cell?_alloc_at _ _ _ _ rfl]; rfl
   have e3 : (wr.alloc (.cells #[.string (gt ns k).1,.string (gt ns k).2.1,.string (gt ns k).2.2.1,.int .i64 (gt ns k).2.2.2] 69)).cell? ⟨wr.heap.size,3,none⟩ = some (Value.int .i64 (gt ns k).2.2.2):=by rw [World.cell?_alloc_at _ _ _ _ rfl]; rfl
   have hszA : wr.heap.size < (wr.alloc (.cells #[.string (gt ns k).1,.string (gt ns k).2.1,.string (gt ns k).2.2.1,.int .i64 (gt ns k).2.2.2] 69)).heap.size:=by simp
   clear hc hown hbl;have HIX:=Lib.hid (fun z hz => itemNumber_any A cap B bs (gt ns k).1 (wr.alloc (.cells #[.string (gt ns k).1,.string (gt ns k).2.1,.string (gt ns k).2.2.1,.int .i64 (gt ns k).2.2.2] 69)) hrA z hz)
   go_wp2_with fail
   generalize (wr.alloc (.cells #[.string (gt ns k).1,.string (gt ns k).2.1,.string (gt ns k).2.2.1,.int .i64 (gt ns k).2.2.2] 69)) = wA at *
   refine (HIX.out (by omega) (by omega)).mono ?_;rintro e w3 ⟨rfl,hb3⟩;clear HIX;have hbl3:=hblA.trans (hb3.mono (by omega));have hs3:=hbl3.size;have hown3:=Own.below hownA hb3;have f0:=(hb3.cell (by show wr.heap.size < _; omega)).trans e0;have f1:=(hb3.cell (by show wr.heap.size < _; omega)).trans e1;have f2:=(hb3.cell (by show wr.heap.size < _; omega)).trans e2;have f3:=(hb3.cell (by show wr.heap.size < _; omega)).trans e3;clear e0 e1 e2 e3 c0 c1 c2 c3;cases hq : hasK bs (gt ns k).1
   ·have hx:=ix_neg hq
    rw [hx];clear hx;have HN:=Lib.hid (selTo_not (p:=(chP bs)) hklt (show (hasK bs (gt ns k).1 && !eqEl (iwOf bs (gt ns k).1) (gt ns k)) = false by rw [hq]; rfl));clear hq
    go_wp2_with fail
    go_quiet (fail)
    go_wp2_with fail
    go_roundw
    case rel => exact ⟨k + 1,R,c,cur,by omega,by go_num,rfl,Lib.hid (by rw [HN.out,← hcur.out]),by omega,hown3,below_drewN hbl3 _⟩
    case measure => simp [intOf]; omega
   ·obtain ⟨j,hj,hx,hw,_⟩:=ix_pos hq
    rw [hx];have gj : decide ((0 : Int) ≤ (j : Int)) = true:=decide_eq_true (by omega);obtain ⟨b2,off2,rfl,hb2,hc2⟩:=(h.below (hbl3.mono hB)).at_ (by omega);have y0 : w3.cell? ⟨b2,off2 + j * 4,none⟩ = some (Value.string (gt bs j).1):=hc2 j 0 (by omega) (by omega);have y1 : w3.cell? ⟨b2,off2 + j * 4 + 1,none⟩ = some (Value.string (gt bs j).2.1):=hc2 j 1 (by omega) (by omega);have y2 : w3.cell? ⟨b2,off2 + j * 4 + 2,none⟩ = some (Value.string (gt bs j).2.2.1):=hc2 j 2 (by omega) (by omega);have y3 : w3.cell? ⟨b2,off2 + j * 4 + 3,none⟩ = some (Value.int .i64 (gt bs j).2.2.2):=hc2 j 3 (by omega) (by omega);clear hc2 hx;have hneq:=fun w' => neq_Item (gt bs j).1 (gt bs j).2.1 (gt bs j).2.2.1 (gt bs j).2.2.2 (gt ns k).1 (gt ns k).2.1 (gt ns k).2.2.1 (gt ns k).2.2.2 w'
    have hgd:=guard_Item;cases he : eqEl (gt bs j) (gt ns k)
    ·have hp : chP bs (gt ns k) = true:=by unfold chP; rw [hq,← hw,he]; rfl
     have hn : eqEl (α:=ElItem) ((gt bs j).1,(gt bs j).2.1,(gt bs j).2.2.1,(gt bs j).2.2.2) ((gt ns k).1,(gt ns k).2.1,(gt ns k).2.2.1,(gt ns k).2.2.2) = false:=he;clear hq hw he
     go_wp2_with fail
     go_quiet (fail)
     obtain ⟨W2,hW2⟩ : ∃ W2,W2 = w3.drewN nq:=⟨_,rfl⟩;have hbl4 : Below w.heap.size w W2:=by rw [hW2]; exact below_drewN hbl3 _
     have hown4 : OwnE 4 encItem 69 W2 w.heap.size R c cur:=by rw [hW2]; exact Own.drewN hown3 _
     have hs4:=hbl4.size;have p0 : W2.cell? ⟨wr.heap.size,0,none⟩ = some (Value.string (gt ns k).1):=by rw [hW2]; exact f0
     have p1 : W2.cell? ⟨wr.heap.size,1,none⟩ = some (Value.string (gt ns k).2.1):=by rw [hW2]; exact f1
     have p2 : W2.cell? ⟨wr.heap.size,2,none⟩ = some (Value.string (gt ns k).2.2.1):=by rw [hW2]; exact f2
     have p3 : W2.cell? ⟨wr.heap.size,3,none⟩ = some (Value.int .i64 (gt ns k).2.2.2):=by rw [hW2]; exact f3
     rw [← hW2];have HN:=Lib.hid (selTo_is (p:=chP bs) hklt hp);clear hp hn hW2 hbl3 hown3 hs3 f0 f1 f2 f3 y0 y1 y2 y3
     go_wp2_with (at_builtin; refine wpList_app rfl (.tmp 37) (.tmp 39) _ rfl w.heap.size 69 _ 4 56 Tryz.underlying30 info_Item rfl (by omega) R (some ⟨W2.heap.size,0,none⟩) cur.length c 1 1 (W2.heap.size + 1) (cE 4 encItem cur) (encItem (gt ns k)) rfl rfl (Own.below hown4 ((Below.refl _ _).alloc (Nat.le_refl _) _)) (rd_elem _ _ _ _ (fun j hj => by rcases (by omega : j = 0 ∨ j = 1 ∨ j = 2 ∨ j = 3) with rfl | rfl | rfl | rfl <;> rfl)) (fun _ _ => encItem_one _ _) (by simp only [maxLen]; omega) (by omega) (by first | omega | (simp; done) | (simp; omega)) ?_; intro T1 cap1 w5 hown5 hg2)
     go_roundw
     case rel => exact ⟨k + 1,T1,cap1,cur ++ [(gt ns k)],by omega,by go_num,by rw [List.length_append]; rfl,Lib.hid (by rw [HN.out,← hcur.out]),by rw [List.length_append]; simp; omega,OwnE.snoc (by omega) hown5,hbl4.trans (((Below.refl _ _).alloc hs4 _).trans (grown_below hg2 (fun b hb => (Own.lt hown4 hb).1) (by first | omega | (simp; done) | (simp; omega))))⟩
     case measure => simp [intOf]; omega
    ·have hp : chP bs (gt ns k) = false:=by unfold chP; rw [hq,← hw,he]; rfl
     have hn : eqEl (α:=ElItem) ((gt bs j).1,(gt bs j).2.1,(gt bs j).2.2.1,(gt bs j).2.2.2) ((gt ns k).1,(gt ns k).2.1,(gt ns k).2.2.1,(gt ns k).2.2.2) = true:=he;have HN:=Lib.hid (selTo_not (p:=chP bs) hklt hp);clear hq hw he hp
     go_wp2_with fail
     go_quiet (fail)
     go_wp2_with fail
     go_roundw
     case rel => exact ⟨k + 1,R,c,cur,by omega,by go_num,rfl,Lib.hid (by rw [HN.out,← hcur.out]),by omega,hown3,below_drewN hbl3 _⟩
     case measure => simp [intOf]; omega
  ·obtain rfl : k = ns.length:=by omega
   go_wp2_with fail
   go_ret;have hfin : cur = chOf bs ns:=by rw [hcur.out]; rw [selTo_all]; rfl
   subst hfin;exact ⟨_,_,rfl,hown,hbl⟩
end Go.Proofs.YtfnmlffpnmmcdaaGreatDoor
namespace Go.Proofs.YtfnmlffpnmmcdaaGreatDoor
set_option maxRecDepth 100000
open Go.RowKit
section
variable {P : Program} {w : World}
theorem run_append_at (base : Nat) (t ty e : TypeId) (z : Value) (sz bytes : Nat) (ht : P.underlying t = some (.slice e)) (hinfo : (P.info? e).map (fun i => (i.zero,i.size,i.bytes)) = some (some z,sz,bytes))
    (hzs : z.cells.size = sz) (hsz : 0 < sz) (A A' : Option Addr) (n cap m c B : Nat) (f g : Nat → Value) (hown : Own w base e sz A n cap f) (hr : Rd w B sz A' m g) (h1 : ∀ j,j < m * sz → (g j).oneCell' = true)
    (h63 : n + m ≤ maxLen) (hbytes : (n + m) * bytes ≤ 140737488355328) (hbase : base ≤ w.heap.size) (hm0 : 0 < m) :
    ∃ A1 cap1 w1,(Builtin.append_ #[t,t] ty #[.slice A n cap,.slice A' m c]).run P w = .ok (.slice A1 (n + m) cap1) w1 ∧ Own w1 base e sz A1 (n + m) cap1 (fun j => if j < n * sz then f j else g (j - n * sz)) ∧ w.grownBy w1 (blk A) ∧ (blk A1 = blk A ∨ ∀ b,blk A1 = some b → w.heap.size ≤ b):=by
 by_cases hA : A = none
 ·subst hA
  have h0 : n = 0 ∧ cap = 0:=by
   rcases hown.shape with ⟨_,h2,h3⟩ | ⟨b,h2,_⟩
   ·exact ⟨h2,h3⟩
   ·cases h2
  obtain ⟨rfl,rfl⟩:=h0;obtain ⟨A1,cap1,w1,h2,h3,h4⟩:=run_append (P:=P) (w:=w) w.heap.size t ty e z sz bytes ht hinfo hzs hsz none A' 0 0 m c B f g (Own.nil _ _ _ _ _) hr h1 h63 hbytes (Nat.le_refl _);exact ⟨A1,cap1,w1,h2,Own.more h3 hbase,h4,.inr fun b hb => (Own.lt h3 hb).1⟩
 ·obtain ⟨A1,cap1,w1,hrun,h2,h3⟩:=run_append (P:=P) (w:=w) base t ty e z sz bytes ht hinfo hzs hsz A A' n cap m c B f g hown hr h1 h63 hbytes hbase
  refine ⟨A1,cap1,w1,hrun,h2,h3,?_⟩;obtain ⟨i,hi,hz,hs,hb⟩:=info_parts hinfo;subst hs; subst hb
  obtain ⟨b,o2,rfl,hbB,hc⟩:=hr hm0;have hnl : ((List.range (m * i.size)).map g).length = m * i.size:=by simp
  have hnews : ∀ j u,((List.range (m * i.size)).map g)[j]? = some u → w.cell? ((⟨b,o2,none⟩ : Addr).add j) = some u:=fun j u hu => by
   have hj : j < m * i.size:=by
    have:=(List.getElem?_eq_some_iff.1 hu).1;simpa using this
   rw [range_map_get g hj] at hu;rw [Addr.add_lit,hc j hj,hu]
  have hone : ∀ u ∈ (List.range (m * i.size)).map g,u.oneCell' = true:=fun u hu => by
   simp only [List.mem_map,List.mem_range] at hu;obtain ⟨j,hj,rfl⟩:=hu;exact h1 j hj
  rcases hown.shape with ⟨h0,_⟩ | ⟨b0,rfl,hb0,hlt0,hnc,hcm⟩
  ·exact absurd h0 hA
  ·by_cases hroom : n + m ≤ cap
   ·obtain ⟨w2,hrun2,_⟩:=run_append_own_spare (P:=P) (w:=w) base t ty e i i.size ht hi rfl b0 n cap ((List.range (n * i.size)).map f) hown ⟨b,o2,none⟩ m c ((List.range (m * i.size)).map g) hnl hnews hone hroom
    rw [hrun] at hrun2;injection hrun2 with e1 _
    injection e1 with e2 _ _
    exact .inl (by rw [e2])
   ·have hol : ((List.range (n * i.size)).map f).length = n * i.size:=by simp
    have holds : ∀ j u,((List.range (n * i.size)).map f)[j]? = some u → w.cell? ((⟨b0,0,none⟩ : Addr).add j) = some u:=fun j u hu => by
     have hj : j < n * i.size:=by
      have:=(List.getElem?_eq_some_iff.1 hu).1;simpa using this
     rw [range_map_get f hj] at hu;rw [Addr.add_lit,Nat.zero_add,hown.cell rfl hj,hu]
    have hgr:=run_append_grow (P:=P) w t ty e i z ht hi hz ⟨b0,0,none⟩ n cap _ hol holds ⟨b,o2,none⟩ m c _ hnl hnews (by omega) (by simp only [maxLen] at h63; omega) (growslice_fits (by omega) hbytes);rw [hrun] at hgr;injection hgr with e1 _
    injection e1 with e2 _ _
    refine .inr fun b hb => ?_
    rw [e2] at hb;simp [blk] at hb;omega
theorem wpList_app2 {ops : Array Oper} {rest : List Oper} {o : Oper} {a : Act} {Q : Exit → Act → World → Prop} (hgd : o.guard = none) (s x : Operand) (t : TypeId)
    (ho : o.op = .call { callee:=.builtin .append,args:=#[s,x],argTypes:=#[t,t] })
    (base : Nat) (e : TypeId) (z : Value) (sz bytes : Nat) (ht : P.underlying t = some (.slice e)) (hinfo : (P.info? e).map (fun i => (i.zero,i.size,i.bytes)) = some (some z,sz,bytes))
    (hzs : z.cells.size = sz) (hsz : 0 < sz) (A A' : Option Addr) (n cap m c B : Nat) (f g : Nat → Value) (hs : a.eval s = .slice A n cap) (hx : a.eval x = .slice A' m c) (hown : Own w base e sz A n cap f) (hr : Rd w B sz A' m g) (h1 : ∀ j,j < m * sz → (g j).oneCell' = true)
    (h63 : n + m ≤ maxLen) (hbytes : (n + m) * bytes ≤ 140737488355328) (hbase : base ≤ w.heap.size) (hm0 : 0 < m)
    (h : ∀ A1 cap1 w1,Own w1 base e sz A1 (n + m) cap1 (fun j => if j < n * sz then f j else g (j - n * sz)) → w.grownBy w1 (blk A) → (blk A1 = blk A ∨ ∀ b,blk A1 = some b → w.heap.size ≤ b) → wpList P ops Q rest (a.put o.dst (.slice A1 (n + m) cap1)) w1) : wpList P ops Q (o :: rest) a w:=by
 refine wpList_plain hgd fun K hK => ?_
 obtain ⟨A1,cap1,w1,hrun,h2,h3,h4⟩:=run_append_at (P:=P) (w:=w) base t o.type e z sz bytes ht hinfo hzs hsz A A' n cap m c B f g hown hr h1 h63 hbytes hbase hm0;unfold Oper.wp execOp;simp only [ho,resolve,invoke,builtin,Sem.run_bind,Sem.run_pure,Result.andThen_ok,List.map_toArray,List.map_cons,List.map_nil,hs,hx,hrun];exact hK _ _ (h A1 cap1 w1 h2 h3 h4)
theorem step_app2 {ops : Array Oper} {o : Oper} {a : Act} {K : Act → World → Prop} {Q : Exit → Act → World → Prop} {E : Prop} (hgd : o.guard = none) (s x : Operand) (t : TypeId)
    (ho : o.op = .call { callee:=.builtin .append,args:=#[s,x],argTypes:=#[t,t] })
    (base : Nat) (e : TypeId) (z : Value) (sz bytes : Nat) (ht : P.underlying t = some (.slice e)) (hinfo : (P.info? e).map (fun i => (i.zero,i.size,i.bytes)) = some (some z,sz,bytes))
    (hzs : z.cells.size = sz) (hsz : 0 < sz) (A A' : Option Addr) (n cap m c B : Nat) (f g : Nat → Value) (hs : a.eval s = .slice A n cap) (hx : a.eval x = .slice A' m c) (hown : Own w base e sz A n cap f) (hr : Rd w B sz A' m g) (h1 : ∀ j,j < m * sz → (g j).oneCell' = true)
    (h63 : n + m ≤ maxLen) (hbytes : (n + m) * bytes ≤ 140737488355328) (hbase : base ≤ w.heap.size) (hm0 : 0 < m)
    (h : ∀ A1 cap1 w1,Own w1 base e sz A1 (n + m) cap1 (fun j => if j < n * sz then f j else g (j - n * sz)) → w.grownBy w1 (blk A) → (blk A1 = blk A ∨ ∀ b,blk A1 = some b → w.heap.size ≤ b) → K (a.put o.dst (.slice A1 (n + m) cap1)) w1) :
    if Region.wanted o (yielded ops a.tmps) = true then Oper.wp P o a w K Q else E:=by
 have hw : Region.wanted o (yielded ops a.tmps) = true:=by simp [Region.wanted,hgd]
 rw [if_pos hw];obtain ⟨A1,cap1,w1,hrun,h2,h3,h4⟩:=run_append_at (P:=P) (w:=w) base t o.type e z sz bytes ht hinfo hzs hsz A A' n cap m c B f g hown hr h1 h63 hbytes hbase hm0;unfold Oper.wp execOp;simp only [ho,resolve,invoke,builtin,Sem.run_bind,Sem.run_pure,Result.andThen_ok,List.map_toArray,List.map_cons,List.map_nil,hs,hx,hrun];exact h _ _ _ h2 h3 h4
end
theorem info_Act : (Tryz.prog.info? 45).map (fun i => (i.zero,i.size,i.bytes)) = some (some (.agg #[.int .i64 0,.int .i64 0,.string ByteArray.empty,.string ByteArray.empty,.string ByteArray.empty]),5,64):=by kernel_rfl
theorem Own.keepB {w w' : World} {base e sz n cap : Nat} {A : Option Addr} {f : Nat → Value} (h : Own w base e sz A n cap f) (hk : ∀ b,blk A = some b → w'.heap[b]? = w.heap[b]?) : Own w' base e sz A n cap f:=by
 refine ⟨h.1,?_⟩;rcases h.2 with h2 | ⟨g,c,cur,hv,hg,hh,r⟩
 ·exact .inl h2
 ·injection hv with h1
  subst h1;exact .inr ⟨g,c,cur,by rw [‹cap = c›],hg,by rw [hk g rfl]; exact hh,r⟩
structure TcS (w0 : World) (w : World) (R : Option Addr) (c : Nat) (cur : List ElAct) : Prop where
 hL : Own w w0.heap.size 73 1 (some ⟨w0.heap.size,0,none⟩) 1 1 (fun _ => .slice R cur.length c)
 hR : OwnE 5 encAct 45 w (w0.heap.size + 1) R c cur
 bel : Below w0.heap.size w0 w
theorem TcS.below {w0 w w' : World} {R : Option Addr} {c : Nat} {cur : List ElAct} (h : TcS w0 w R c cur) (hb : Below w.heap.size w w') : TcS w0 w' R c cur :=
 ⟨Own.below h.hL hb,Own.below h.hR hb,h.bel.trans (hb.mono h.bel.size)⟩
theorem TcS.lt {w0 w : World} {R : Option Addr} {c : Nat} {cur : List ElAct} (h : TcS w0 w R c cur) : w0.heap.size < w.heap.size:=(h.hL.lt rfl).2
set_option maxHeartbeats 800000 in
theorem tell_any (kind : Int) (key : ByteArray) (w0 : World) (bN bW : Nat) (who : ElHandle) (n : Int) (R : Option Addr) (c : Nat) (cur : List ElAct) (w : World) (h : TcS w0 w R c cur) (hN : w0.cell? ⟨bN,0,none⟩ = some (.int .i64 n)) (hW0 : w0.cell? ⟨bW,0,none⟩ = some (.string who.1)) (hW1 : w0.cell? ⟨bW,1,none⟩ = some (.string who.2)) (hl : cur.length ≤ 100) (hn0 : 0 ≤ n) (hn1 : n ≤ 1000000) (hBN : bN < w0.heap.size) (hBW : bW < w0.heap.size) :
    Calls Tryz.prog 159 #[.int .i64 kind,.string key,.pointer (some ⟨w0.heap.size,0,none⟩),.pointer (some ⟨bN,0,none⟩),.pointer (some ⟨bW,0,none⟩)] w fun e w' => e = .returned (.tuple #[]) ∧ ∃ R' c',TcS w0 w' R' c' (cur ++ [(kind,n + (cur.length : Int),who.1,who.2,key)]) ∧ (∀ b,b < w.heap.size → b ≠ w0.heap.size → blk R ≠ some b → w'.heap[b]? = w.heap[b]?) ∧ w.heap.size ≤ w'.heap.size ∧ (blk R' = blk R ∨ ∀ b,blk R' = some b → w.heap.size ≤ b):=by
 have hlt:=h.lt;have cN : w.cell? ⟨bN,0,none⟩ = some (.int .i64 n):=(h.bel.cell (by exact hBN)).trans hN;have cW0 : w.cell? ⟨bW,0,none⟩ = some (.string who.1):=(h.bel.cell (by exact hBW)).trans hW0;have cW1 : w.cell? ⟨bW,1,none⟩ = some (.string who.2):=(h.bel.cell (by exact hBW)).trans hW1;have cL : w.cell? ⟨w0.heap.size,0,none⟩ = some (.slice R cur.length c):=h.hL.cell rfl (j:=0) (by omega);have hR:=h.hR;have hRb : blk R = none ∨ blk R ≠ some w0.heap.size:=by
  cases hb : blk R with
  | none => exact .inl rfl
  | some b => exact .inr (fun e => by have:=(Own.lt hR hb).1; injection e with e; omega)
 have HX:=Lib.hid h;clear hN hW0 hW1 h;go_enter Tryz.func159,Tryz.ntmps159
 go_wp2_with (at_builtin; refine wpList_app2 rfl (.tmp 7) (.tmp 16) _ rfl (w0.heap.size + 1) 45 _ 5 64 Tryz.underlying73 info_Act rfl (by omega) R (some ⟨w.heap.size,0,none⟩) cur.length c 1 1 (w.heap.size + 1) (cE 5 encAct cur) (encAct (kind,n + (cur.length : Int),who.1,who.2,key)) rfl rfl (Own.below hR ((Below.refl _ _).alloc (Nat.le_refl _) _)) (rd_elem _ _ _ _ (fun j hj => by rcases (by omega : j = 0 ∨ j = 1 ∨ j = 2 ∨ j = 3 ∨ j = 4) with rfl | rfl | rfl | rfl | rfl <;> rfl)) (fun _ _ => encAct_one _ _) (by simp only [maxLen]; omega) (by omega) (by first | omega | (simp; done) | (simp; omega)) (by omega) ?_; intro R1 c1 w1 o1 g1 hpl; have hL1:=Own.kept (Own.below HX.out.hL ((Below.refl _ _).alloc (Nat.le_refl _) _)) g1 (hRb.elim (fun e => .inr (by rw [e]; simp [blk])) (fun e => .inr (by rw [show blk (some ⟨w0.heap.size,0,none⟩) = some w0.heap.size from rfl]; exact e.symm)));have cL1:=hL1.cell rfl (j:=0) (by omega);have fL1:=hL1.frozen rfl 0)
 go_end0
 have hbA : Below w0.heap.size w0 w1:=(HX.out.bel.alloc (Nat.le_of_lt hlt) _).trans (grown_below g1 (fun b hb => by have:=(Own.lt hR hb).1; omega) (by simp; omega));have hz1:=g1.size;simp at hz1;have hs:=Own.set hL1 rfl (j:=0) (.slice R1 (cur.length + 1) c1);refine ⟨rfl,R1,c1,⟨Own.congr hs.1 (fun j hj => ?_),Own.keepB (OwnE.snoc (by omega) o1) (fun b hb => ?_),hbA.setCell (p:=⟨w0.heap.size,0,none⟩) (Nat.le_refl _) _⟩,fun b hb hne hrow => ?_,by have:=hs.2.size; omega,?_⟩
 ·rw [if_pos (by omega),List.length_append]; rfl
 ·exact Below.heap_setCell _ _ _ _ (by have:=(Own.lt o1 hb).1; show b ≠ w0.heap.size; omega)
 ·rw [Below.heap_setCell _ _ _ _ (by exact hne),g1.block b (by simp; omega) (fun e => hrow e.symm),heap_alloc_old _ _ hb]
 ·rcases hpl with h1 | h1
  ·exact .inl h1
  ·exact .inr fun b hb => by have:=h1 b hb; simp at this; omega
theorem tc_step {q : List ElItem} {pre : List (Int × ByteArray)} {who : ElHandle} {n c : Int} {k : Nat} {cur : List ElAct} (hk : k < q.length) (h : cur = acts who n (pre ++ kk c (q.take k))) : acts who n (pre ++ kk c (q.take (k + 1))) = cur ++ [(c,n + (cur.length : Int),who.1,who.2,(gt q k).1)]:=by
 have e : pre ++ kk c (q.take (k + 1)) = (pre ++ kk c (q.take k)) ++ [(c,(gt q k).1)]:=by
  rw [take_snoc hk,List.append_assoc];unfold kk;rw [List.map_append];rfl
 have hl : cur.length = (pre ++ kk c (q.take k)).length:=by rw [h,acts_len]
 rw [e,acts_snoc,← h,← hl]
theorem tg_step {q : List ByteArray} {pre : List (Int × ByteArray)} {who : ElHandle} {n : Int} {k : Nat} {cur : List ElAct} (hk : k < q.length) (h : cur = acts who n (pre ++ kg (q.take k))) : acts who n (pre ++ kg (q.take (k + 1))) = cur ++ [(2,n + (cur.length : Int),who.1,who.2,gt q k)]:=by
 have e : pre ++ kg (q.take (k + 1)) = (pre ++ kg (q.take k)) ++ [(2,gt q k)]:=by
  rw [take_snoc hk,List.append_assoc];unfold kg;rw [List.map_append];rfl
 have hl : cur.length = (pre ++ kg (q.take k)).length:=by rw [h,acts_len]
 rw [e,acts_snoc,← h,← hl]
theorem inB_of {n lo hi : Int} (h : inB n lo hi = true) : lo ≤ n ∧ n ≤ hi:=by
 unfold inB at h;simp only [Bool.and_eq_true,decide_eq_true_eq] at h;exact h
set_option maxHeartbeats 3200000 in
theorem implTellChanges_any (who : ElHandle) (n : Int) (A : Option Addr) (cap : Nat) (T : Option Addr) (capT B : Nat) (bs ns : List ElItem) (w : World) (h : RdE 4 encItem w B A bs) (ht : RdE 4 encItem w B T ns) (hB : B ≤ w.heap.size) (hcap : bs.length ≤ cap) (hcapT : ns.length ≤ capT) (hvb : fdB bs = true) (hva : fdB ns = true) (hw : hvB who = true) (hn : inB n 0 1000000 = true) :
    Calls Tryz.prog 134 #[.agg #[.string who.1,.string who.2],.int .i64 n,.slice A bs.length cap,.slice T ns.length capT] w fun e w' => ∃ R cR,e = .returned (.slice R (tcOf who n bs ns).length cR) ∧ OwnE 5 encAct 45 w' w.heap.size R cR (tcOf who n bs ns) ∧ Below w.heap.size w w':=by
 obtain ⟨hn0,hn1⟩:=inB_of hn;obtain ⟨⟨_,hz1⟩,_,hz2⟩:=hv_sizes hw;have hm1 : who.1.size ≤ maxLen:=by unfold maxLen; omega
 have hm2 : who.2.size ≤ maxLen:=by unfold maxLen; omega
 have hb8:=fd_len hvb;have hn8:=fd_len hva;have HVB:=Lib.hid hvb;have HVA:=Lib.hid hva;have HW:=Lib.hid hw;have HI:=Lib.hid hn;clear hvb hva hw hn hz1 hz2;have cW0 : ((w.alloc (.cells #[.string who.1,.string who.2] 29)).alloc (.cells #[.int .i64 n] 3)).cell? ⟨w.heap.size,0,none⟩ = some (.string who.1):=by rw [World.cell?_alloc_past _ _ _ (by simp),World.cell?_alloc_at _ _ _ _ rfl]; rfl
 have cW1 : ((w.alloc (.cells #[.string who.1,.string who.2] 29)).alloc (.cells #[.int .i64 n] 3)).cell? ⟨w.heap.size,1,none⟩ = some (.string who.2):=by rw [World.cell?_alloc_past _ _ _ (by simp),World.cell?_alloc_at _ _ _ _ rfl]; rfl
 have cN : ((w.alloc (.cells #[.string who.1,.string who.2] 29)).alloc (.cells #[.int .i64 n] 3)).cell? ⟨w.heap.size + 1,0,none⟩ = some (.int .i64 n):=by rw [World.cell?_alloc_at _ _ _ _ (by simp)]; rfl
 have kA : Below w.heap.size w ((w.alloc (.cells #[.string who.1,.string who.2] 29)).alloc (.cells #[.int .i64 n] 3)):=((Below.refl _ _).alloc (Nat.le_refl _) _).alloc (by simp) _;have zA : w.heap.size + 1 < ((w.alloc (.cells #[.string who.1,.string who.2] 29)).alloc (.cells #[.int .i64 n] 3)).heap.size:=by simp
 have hmf : ∀ (fn : Fn) (first cap : Array Value) (w : World),(Instr.makeFunc fn first cap).run Tryz.prog w = .ok (.func fn first cap) w:=fun _ _ _ _ => rfl
 go_enter Tryz.func134,Tryz.ntmps134
 go_wp2_with fail
 generalize ((w.alloc (.cells #[.string who.1,.string who.2] 29)).alloc (.cells #[.int .i64 n] 3)) = wA at *
 refine (implHandleValid_b who.1 who.2 wA hm1 hm2).mono ?_;rintro e w1 ⟨rfl,b1⟩;rw [show hvB (who.1,who.2) = true from HW.out];have k1:=kA.trans (b1.mono kA.size);have cN1:=(b1.cell (p:=⟨w.heap.size + 1,0,none⟩) (by exact zA)).trans cN;have cV0:=(b1.cell (p:=⟨w.heap.size,0,none⟩) (by show w.heap.size < _; omega)).trans cW0;have cV1:=(b1.cell (p:=⟨w.heap.size,1,none⟩) (by show w.heap.size < _; omega)).trans cW1;have zA1 : w.heap.size + 1 < w1.heap.size:=Nat.lt_of_lt_of_le zA b1.size;clear b1 cN cW0 cW1 kA zA hm1 hm2
 go_wp2_with fail
 refine (within_any n 0 1000000 w1).mono ?_;rintro e w2 ⟨rfl,rfl⟩;rw [HI.out]
 go_wp2_with fail
 refine (implFeedValid_any A cap B bs w1 (h.below (k1.mono hB)) (Nat.le_trans hB k1.size) (by omega) hcap (fd_sz HVB.out)).mono ?_;rintro e w2 ⟨rfl,b2⟩;rw [HVB.out];have k2:=k1.trans (b2.mono k1.size)
 go_wp2_with fail
 refine (implFeedValid_any T capT B ns w2 (ht.below (k2.mono hB)) (Nat.le_trans hB k2.size) (by omega) hcapT (fd_sz HVA.out)).mono ?_;rintro e w3 ⟨rfl,b3⟩;rw [HVA.out];have k3:=k2.trans (b3.mono k2.size);have b13:=b2.trans (b3.mono b2.size);have cN:=(b13.cell (p:=⟨w.heap.size + 1,0,none⟩) (by show w.heap.size + 1 < _; omega)).trans cN1;have cW0:=(b13.cell (p:=⟨w.heap.size,0,none⟩) (by show w.heap.size < _; omega)).trans cV0;have cW1:=(b13.cell (p:=⟨w.heap.size,1,none⟩) (by show w.heap.size < _; omega)).trans cV1;have z3 : w.heap.size + 1 < w3.heap.size:=Nat.lt_of_lt_of_le zA1 b13.size;have z3b:=k3.size;clear cN1 cV0 cV1 b2 b3 b13 k1 k2 zA1;have S0 : TcS w3 (w3.alloc (.cells #[.slice none 0 0] 73)) none 0 []:=⟨Own.lit w3 73 1 1 _ _ (by simp only [maxLen]; omega) rfl,Own.nil _ _ _ _ _,(Below.refl _ _).alloc (Nat.le_refl _) _⟩;have k4 : Below w.heap.size w (w3.alloc (.cells #[.slice none 0 0] 73)):=k3.alloc z3b _
 go_wp2_with fail
 generalize (w3.alloc (.cells #[.slice none 0 0] 73)) = w4 at *
 refine (implNewItems_any A cap T capT B bs ns w4 (h.below (k4.mono hB)) (ht.below (k4.mono hB)) (Nat.le_trans hB k4.size) hcap hcapT HVB.out HVA.out).mono ?_;rintro e x1 ⟨Q1,d1,rfl,oQ1,c1⟩;have S1a:=S0.below c1;have K1a:=k4.trans (c1.mono k4.size);have oQ1a:=Own.more (base':=w3.heap.size + 1) oQ1 S0.lt;have HNE1:=Lib.hid (show ∀ b,blk Q1 = some b → blk none ≠ some b from fun b hb e => by have h1:=(Own.lt oQ1 hb).1; have h2:=(Own.lt S0.hR e).2; omega);have G1:=nwOf_len bs ns;have hq1 : ∃ q,q = nwOf bs ns:=⟨_,rfl⟩;obtain ⟨q1,hq1⟩:=hq1;rw [← hq1] at oQ1a G1 ⊢;have HQ1:=Lib.hid hq1;clear oQ1 c1 S0 k4 hq1
 go_wp2_with fail
 go_loopw [40] (fun i wr => ∃ (k : Nat) (R : Option Addr) (c : Nat) (cur : List ElAct),k ≤ q1.length ∧ i = .int .i64 k ∧ Hid (cur = acts who n ([] ++ kk 0 (q1.take k))) ∧ cur.length ≤ 0 + k ∧ TcS w3 wr R c cur ∧ OwnE 4 encItem 69 wr (w3.heap.size + 1) Q1 d1 q1 ∧ (∀ b,blk Q1 = some b → blk R ≠ some b) ∧ Below w.heap.size w wr) (fun i _ => q1.length - (intOf i).toNat)
 case atStart => exact ⟨0,none,0,[],Nat.zero_le _,rfl,Lib.hid rfl,Nat.zero_le _,S1a,oQ1a,(fun _ _ e => by cases e),K1a⟩
 case round =>
  clear S1a K1a oQ1a;obtain ⟨k,R,c,cur,hk,rfl,hcur,hck,S,oQ,hne,K⟩:=hrel;have hsz:=K.size;have hlt3:=S.lt;by_cases hklt : k < q1.length
  ·have HN:=Lib.hid (tc_step hklt hcur.out)
   obtain ⟨b,off,hQe,hb,hc⟩:=(OwnE.rd oQ).at_ (by omega);obtain rfl:=hQe;have c0 : wr.cell? ⟨b,off + k * 4,none⟩ = some (Value.string (gt q1 k).1):=hc k 0 (by omega) (by omega);have c1 : wr.cell? ⟨b,off + k * 4 + 1,none⟩ = some (Value.string (gt q1 k).2.1):=hc k 1 (by omega) (by omega);have c2 : wr.cell? ⟨b,off + k * 4 + 2,none⟩ = some (Value.string (gt q1 k).2.2.1):=hc k 2 (by omega) (by omega);have c3 : wr.cell? ⟨b,off + k * 4 + 3,none⟩ = some (Value.int .i64 (gt q1 k).2.2.2):=hc k 3 (by omega) (by omega);have e0 : (wr.alloc (.cells #[.string (gt q1 k).1,.string (gt q1 k).2.1,.string (gt q1 k).2.2.1,.int .i64 (gt q1 k).2.2.2] 69)).cell? ⟨wr.heap.size,0,none⟩ = some (Value.string (gt q1 k).1):=by rw [World.cell?_alloc_at _ _ _ _ rfl]; rfl
   have e1 : (wr.alloc (.cells #[.string (gt q1 k).1,.string (gt q1 k).2.1,.string (gt q1 k).2.2.1,.int .i64 (gt q1 k).2.2.2] 69)).cell? ⟨wr.heap.size,1,none⟩ = some (Value.string (gt q1 k).2.1):=by rw [World.cell?_alloc_at _ _ _ _ rfl]; rfl
   have e2 : (wr.alloc (.cells #[.string (gt q1 k).1,.string (gt q1 k).2.1,.string (gt q1 k).2.2.1,.int .i64 (gt q1 k).2.2.2] 69)).cell? ⟨wr.heap.size,2,none⟩ = some (Value.string (gt q1 k).2.2.1):=by rw [World.cell?_alloc_at _ _ _ _ rfl]; rfl
   have e3 : (wr.alloc (.cells #[.string (gt q1 k).1,.string (gt q1 k).2.1,.string (gt q1 k).2.2.1,.int .i64 (gt q1 k).2.2.2] 69)).cell? ⟨wr.heap.size,3,none⟩ = some (Value.int .i64 (gt q1 k).2.2.2):=by rw [World.cell?_alloc_at _ _ _ _ rfl]; rfl
   have bA : Below wr.heap.size wr (wr.alloc (.cells #[.string (gt q1 k).1,.string (gt q1 k).2.1,.string (gt q1 k).2.2.1,.int .i64 (gt q1 k).2.2.2] 69)):=(Below.refl _ _).alloc (Nat.le_refl _) _;have zA : wr.heap.size < (wr.alloc (.cells #[.string (gt q1 k).1,.string (gt q1 k).2.1,.string (gt q1 k).2.2.1,.int .i64 (gt q1 k).2.2.2] 69)).heap.size:=by simp
   have SA:=S.below bA;have oQA:=Own.below oQ bA;have KA:=K.trans (bA.mono hsz);clear hc
   go_wp2_with fail
   generalize (wr.alloc (.cells #[.string (gt q1 k).1,.string (gt q1 k).2.1,.string (gt q1 k).2.2.1,.int .i64 (gt q1 k).2.2.2] 69)) = wB at *
   refine (tell_any 0 (gt q1 k).1 w3 (w.heap.size + 1) w.heap.size who n R c cur wB SA cN cW0 cW1 (by omega) hn0 hn1 (by omega) (by omega)).mono ?_;rintro e w5 ⟨rfl,R2,c2,S2,hfr,hz5,hpl⟩;have KB:=k3.trans (S2.bel.mono z3b)
   go_wp2_with fail
   go_roundw
   case rel =>
    refine ⟨k + 1,R2,c2,_,by omega,by go_num,Lib.hid HN.out.symm,by rw [List.length_append]; simp; omega,S2,Own.keepB oQA (fun b' hb' => hfr b' (Own.lt oQA hb').2 (by have:=(Own.lt oQA hb').1; omega) (hne b' hb')),fun b' hb' => ?_,KB⟩;rcases hpl with h1 | h1
    ·rw [h1]; exact hne b' hb'
    ·intro e; have:=h1 b' e; have:=(Own.lt oQ hb').2; omega
   case measure => simp [intOf]; omega
  ·obtain rfl : k = q1.length:=by omega
   have hcur1 : Hid (cur = acts who n (kk 0 q1)):=Lib.hid (by have:=hcur.out; rw [List.take_length] at this; exact this);clear hcur oQ hne
   go_wp2_with fail
   refine (implChangedItems_any A cap T capT B bs ns wr (h.below (K.mono hB)) (ht.below (K.mono hB)) (Nat.le_trans hB K.size) hcap hcapT HVB.out HVA.out).mono ?_;rintro e x2 ⟨Q2,d2,rfl,oQ2,c2⟩;have S2a:=S.below c2;have K2a:=K.trans (c2.mono K.size);have oQ2a:=Own.more (base':=w3.heap.size + 1) oQ2 S.lt;have HNE2:=Lib.hid (show ∀ b,blk Q2 = some b → blk R ≠ some b from fun b hb e => by have h1:=(Own.lt oQ2 hb).1; have h2:=(Own.lt S.hR e).2; omega);have G2:=chOf_len bs ns;have hq2 : ∃ q,q = chOf bs ns:=⟨_,rfl⟩;obtain ⟨q2,hq2⟩:=hq2;rw [← hq2] at oQ2a G2 ⊢;have HQ2:=Lib.hid hq2;clear oQ2 c2 S K hq2
   go_wp2_with fail
   go_loopw [53] (fun i wr => ∃ (k : Nat) (R : Option Addr) (c : Nat) (cur : List ElAct),k ≤ q2.length ∧ i = .int .i64 k ∧ Hid (cur = acts who n ((kk 0 q1) ++ kk 1 (q2.take k))) ∧ cur.length ≤ 8 + k ∧ TcS w3 wr R c cur ∧ OwnE 4 encItem 69 wr (w3.heap.size + 1) Q2 d2 q2 ∧ (∀ b,blk Q2 = some b → blk R ≠ some b) ∧ Below w.heap.size w wr) (fun i _ => q2.length - (intOf i).toNat)
   case atStart => exact ⟨0,R,c,cur,Nat.zero_le _,rfl,Lib.hid (by rw [hcur1.out]; simp [kk]),by omega,S2a,oQ2a,HNE2.out,K2a⟩
   case round =>
    clear S2a K2a oQ2a;obtain ⟨k,R,c,cur,hk,rfl,hcur,hck,S,oQ,hne,K⟩:=hrel;have hsz:=K.size;have hlt3:=S.lt;by_cases hklt : k < q2.length
    ·have HN:=Lib.hid (tc_step hklt hcur.out)
     obtain ⟨b,off,hQe,hb,hc⟩:=(OwnE.rd oQ).at_ (by omega);obtain rfl:=hQe;have c0 : wr.cell? ⟨b,off + k * 4,none⟩ = some (Value.string (gt q2 k).1):=hc k 0 (by omega) (by omega);have c1 : wr.cell? ⟨b,off + k * 4 + 1,none⟩ = some (Value.string (gt q2 k).2.1):=hc k 1 (by omega) (by omega);have c2 : wr.cell? ⟨b,off + k * 4 + 2,none⟩ = some (Value.string (gt q2 k).2.2.1):=hc k 2 (by omega) (by omega);have c3 : wr.cell? ⟨b,off + k * 4 + 3,none⟩ = some (Value.int .i64 (gt q2 k).2.2.2):=hc k 3 (by omega) (by omega);have e0 : (wr.alloc (.cells #[.string (gt q2 k).1,.string (gt q2 k).2.1,.string (gt q2 k).2.2.1,.int .i64 (gt q2 k).2.2.2] 69)).cell? ⟨wr.heap.size,0,none⟩ = some (Value.string (gt q2 k).1):=by rw [World.cell?_alloc_at _ _ _ _ rfl]; rfl
     have e1 : (wr.alloc (.cells #[.string (gt q2 k).1,.string (gt q2 k).2.1,.string (gt q2 k).2.2.1,.int .i64 (gt q2 k).2.2.2] 69)).cell? ⟨wr.heap.size,1,none⟩ = some (Value.string (gt q2 k).2.1):=by rw [World.cell?_alloc_at _ _ _ _ rfl]; rfl
     have e2 : (wr.alloc (.cells #[.string (gt q2 k).1,.string (gt q2 k).2.1,.string (gt q2 k).2.2.1,.int .i64 (gt q2 k).2.2.2] 69)).cell? ⟨wr.heap.size,2,none⟩ = some (Value.string (gt q2 k).2.2.1):=by rw [World.cell?_alloc_at _ _ _ _ rfl]; rfl
     have e3 : (wr.alloc (.cells #[.string (gt q2 k).1,.string (gt q2 k).2.1,.string (gt q2 k).2.2.1,.int .i64 (gt q2 k).2.2.2] 69)).cell? ⟨wr.heap.size,3,none⟩ = some (Value.int .i64 (gt q2 k).2.2.2):=by rw [World.cell?_alloc_at _ _ _ _ rfl]; rfl
     have bA : Below wr.heap.size wr (wr.alloc (.cells #[.string (gt q2 k).1,.string (gt q2 k).2.1,.string (gt q2 k).2.2.1,.int .i64 (gt q2 k).2.2.2] 69)):=(Below.refl _ _).alloc (Nat.le_refl _) _;have zA : wr.heap.size < (wr.alloc (.cells #[.string (gt q2 k).1,.string (gt q2 k).2.1,.string (gt q2 k).2.2.1,.int .i64 (gt q2 k).2.2.2] 69)).heap.size:=by simp
     have SA:=S.below bA;have oQA:=Own.below oQ bA;have KA:=K.trans (bA.mono hsz);clear hc
     go_wp2_with fail
     generalize (wr.alloc (.cells #[.string (gt q2 k).1,.string (gt q2 k).2.1,.string (gt q2 k).2.2.1,.int .i64 (gt q2 k).2.2.2] 69)) = wB at *
     refine (tell_any 1 (gt q2 k).1 w3 (w.heap.size + 1) w.heap.size who n R c cur wB SA cN cW0 cW1 (by omega) hn0 hn1 (by omega) (by omega)).mono ?_;rintro e w5 ⟨rfl,R2,c2,S2,hfr,hz5,hpl⟩;have KB:=k3.trans (S2.bel.mono z3b)
     go_wp2_with fail
     go_roundw
     case rel =>
      refine ⟨k + 1,R2,c2,_,by omega,by go_num,Lib.hid HN.out.symm,by rw [List.length_append]; simp; omega,S2,Own.keepB oQA (fun b' hb' => hfr b' (Own.lt oQA hb').2 (by have:=(Own.lt oQA hb').1; omega) (hne b' hb')),fun b' hb' => ?_,KB⟩;rcases hpl with h1 | h1
      ·rw [h1]; exact hne b' hb'
      ·intro e; have:=h1 b' e; have:=(Own.lt oQ hb').2; omega
     case measure => simp [intOf]; omega
    ·obtain rfl : k = q2.length:=by omega
     have hcur2 : Hid (cur = acts who n (kk 0 q1 ++ kk 1 q2)):=Lib.hid (by have:=hcur.out; rw [List.take_length] at this; exact this);clear hcur oQ hne
     go_wp2_with fail
     refine (implGoneKeys_any A cap T capT B bs ns wr (h.below (K.mono hB)) (ht.below (K.mono hB)) (Nat.le_trans hB K.size) hcap hcapT HVB.out HVA.out).mono ?_;rintro e x3 ⟨Q3,d3,rfl,oQ3,c3⟩;have S3a:=S.below c3;have K3a:=K.trans (c3.mono K.size);have oQ3a:=Own.more (base':=w3.heap.size + 1) oQ3 S.lt;have HNE3:=Lib.hid (show ∀ b,blk Q3 = some b → blk R ≠ some b from fun b hb e => by have h1:=(Own.lt oQ3 hb).1; have h2:=(Own.lt S.hR e).2; omega);have G3:=gkOf_len bs ns;have hq3 : ∃ q,q = gkOf bs ns:=⟨_,rfl⟩;obtain ⟨q3,hq3⟩:=hq3;rw [← hq3] at oQ3a G3 ⊢;have HQ3:=Lib.hid hq3;clear oQ3 c3 S K hq3
     go_wp2_with fail
     go_loopw [16,66] (fun _ i wr => ∃ (k : Nat) (R : Option Addr) (c : Nat) (cur : List ElAct),k ≤ q3.length ∧ i = .int .i64 k ∧ Hid (cur = acts who n ((kk 0 q1 ++ kk 1 q2) ++ kg (q3.take k))) ∧ cur.length ≤ 16 + k ∧ TcS w3 wr R c cur ∧ OwnE 1 encStr 9 wr (w3.heap.size + 1) Q3 d3 q3 ∧ (∀ b,blk Q3 = some b → blk R ≠ some b) ∧ Below w.heap.size w wr) (fun _ i _ => q3.length - (intOf i).toNat)
     case atStart => exact ⟨0,R,c,cur,Nat.zero_le _,rfl,Lib.hid (by rw [hcur2.out]; simp [kg]),by omega,S3a,oQ3a,HNE3.out,K3a⟩
     case round =>
      clear S3a K3a oQ3a;obtain ⟨k,R,c,cur,hk,rfl,hcur,hck,S,oQ,hne,K⟩:=hrel;have hsz:=K.size;have hlt3:=S.lt;by_cases hklt : k < q3.length
      ·have HN:=Lib.hid (tg_step hklt hcur.out)
       obtain ⟨b,off,hQe,hb,hc⟩:=(OwnE.rd oQ).at_ (by omega);obtain rfl:=hQe;have c0 : wr.cell? ⟨b,off + k,none⟩ = some (.string (gt q3 k)):=by have:=hc k 0 (by omega) (by omega); rw [Nat.mul_one,Nat.add_zero] at this; exact this
       clear hc;have SA:=S;have oQA:=oQ;have KA:=K
       go_wp2_with fail
       obtain ⟨wB,rfl⟩ : ∃ wB : World,wB = wr:=⟨_,rfl⟩;have zA:=Nat.le_refl wB.heap.size;refine (tell_any 2 (gt q3 k) w3 (w.heap.size + 1) w.heap.size who n R c cur wB SA cN cW0 cW1 (by omega) hn0 hn1 (by omega) (by omega)).mono ?_;rintro e w5 ⟨rfl,R2,c2,S2,hfr,hz5,hpl⟩;have KB:=k3.trans (S2.bel.mono z3b)
       go_wp2_with fail
       go_roundw
       case rel =>
        refine ⟨k + 1,R2,c2,_,by omega,by go_num,Lib.hid HN.out.symm,by rw [List.length_append]; simp; omega,S2,Own.keepB oQA (fun b' hb' => hfr b' (Own.lt oQA hb').2 (by have:=(Own.lt oQA hb').1; omega) (hne b' hb')),fun b' hb' => ?_,KB⟩;rcases hpl with h1 | h1
        ·rw [h1]; exact hne b' hb'
        ·intro e; have:=h1 b' e; have:=(Own.lt oQ hb').2; omega
       case measure => simp [intOf]; omega
      ·obtain rfl : k = q3.length:=by omega
       have hfin : cur = tcOf who n bs ns:=by have:=hcur.out; rw [List.take_length] at this; rw [this,HQ1.out,HQ2.out,HQ3.out]; rfl
       have cL:=S.hL.cell rfl (j:=0) (by omega);clear hcur oQ hne
       go_wp2_with fail
       go_ret;subst hfin;exact ⟨R,c,rfl,Own.more S.hR (by omega),K⟩
end Go.Proofs.YtfnmlffpnmmcdaaGreatDoor
namespace Go.Proofs.YtfnmlffpnmmcdaaGreatDoor
set_option maxRecDepth 100000
open Go.RowKit
set_option maxHeartbeats 800000 in
theorem implActivityValid_any (kind num : Int) (who : ElHandle) (what : ByteArray) (w : World) (hw0 : who.1.size ≤ maxLen) (hw1 : who.2.size ≤ maxLen) (hwt : what.size ≤ maxLen) : Calls Tryz.prog 73 #[.agg #[.int .i64 kind,.int .i64 num,.string who.1,.string who.2,.string what]] w fun e w' => e = .returned (.bool (acB kind num who what)) ∧ Below w.heap.size w w':=by
 have hbA : Below w.heap.size w (w.alloc (.cells #[.int .i64 kind,.int .i64 num,.string who.1,.string who.2,.string what] 45)):=(Below.refl _ _).alloc (Nat.le_refl _) _;have hzA : w.heap.size < (w.alloc (.cells #[.int .i64 kind,.int .i64 num,.string who.1,.string who.2,.string what] 45)).heap.size:=by simp
 have q0 : (w.alloc (.cells #[.int .i64 kind,.int .i64 num,.string who.1,.string who.2,.string what] 45)).cell? ⟨w.heap.size,0,none⟩ = some (Value.int .i64 kind):=by rw [World.cell?_alloc_at _ _ _ _ rfl]; rfl
 have q1 : (w.alloc (.cells #[.int .i64 kind,.int .i64 num,.string who.1,.string who.2,.string what] 45)).cell? ⟨w.heap.size,1,none⟩ = some (Value.int .i64 num):=by rw [World.cell?_alloc_at _ _ _ _ rfl]; rfl
 have q2 : (w.alloc (.cells #[.int .i64 kind,.int .i64 num,.string who.1,.string who.2,.string what] 45)).cell? ⟨w.heap.size,2,none⟩ = some (Value.string who.1):=by rw [World.cell?_alloc_at _ _ _ _ rfl]; rfl
 have q3 : (w.alloc (.cells #[.int .i64 kind,.int .i64 num,.string who.1,.string who.2,.string what] 45)).cell? ⟨w.heap.size,3,none⟩ = some (Value.string who.2):=by rw [World.cell?_alloc_at _ _ _ _ rfl]; rfl
 have q4 : (w.alloc (.cells #[.int .i64 kind,.int .i64 num,.string who.1,.string who.2,.string what] 45)).cell? ⟨w.heap.size,4,none⟩ = some (Value.string what):=by rw [World.cell?_alloc_at _ _ _ _ rfl]; rfl
 have hcall:=fun W => implHandleValid_b who.1 who.2 W hw0 hw1
 rw [show (who.1,who.2) = who from rfl] at hcall;cases h1 : inB kind 0 5
 ·have HQ:=Lib.hid (acB_1 num who what h1)
  go_enter Tryz.func73,Tryz.ntmps73
  go_wp2_with (go_at_call 67; refine (within_any _ _ _ _).mono ?_; rintro e w' ⟨rfl,rfl⟩)
  go_ret;exact ⟨ret_bool HQ.out.symm,hbA⟩
 ·cases h2 : inB num 0 1000000000
  ·have HQ:=Lib.hid (acB_2 kind who what h2)
   go_enter Tryz.func73,Tryz.ntmps73
   go_wp2_with (go_at_call 67; refine (within_any _ _ _ _).mono ?_; rintro e w' ⟨rfl,rfl⟩)
   go_ret;exact ⟨ret_bool HQ.out.symm,hbA⟩
  ·cases h3 : hvB who
   ·have HQ:=Lib.hid (acB_3 kind num what h3)
    rw [h3] at hcall;have HC:=Lib.hid hcall;clear hcall h3;go_enter Tryz.func73,Tryz.ntmps73
    go_wp2_with (go_at_call 67; refine (within_any _ _ _ _).mono ?_; rintro e w' ⟨rfl,rfl⟩)
    clear h1 h2;generalize (w.alloc (.cells #[.int .i64 kind,.int .i64 num,.string who.1,.string who.2,.string what] 45)) = wA at *
    refine (HC.out wA).mono ?_;rintro e w1 ⟨rfl,b1⟩;have k1:=hbA.trans (b1.mono hbA.size);have r4:=(b1.cell (p:=⟨w.heap.size,4,none⟩) (by show w.heap.size < _; omega)).trans q4
    go_wp2_with fail
    go_ret;exact ⟨ret_bool HQ.out.symm,k1⟩
   ·have HQ:=Lib.hid (acB_4 what h1 h2 h3)
    rw [h3] at hcall;have HC:=Lib.hid hcall;clear hcall h3;go_enter Tryz.func73,Tryz.ntmps73
    go_wp2_with (go_at_call 67; refine (within_any _ _ _ _).mono ?_; rintro e w' ⟨rfl,rfl⟩)
    clear h1 h2;generalize (w.alloc (.cells #[.int .i64 kind,.int .i64 num,.string who.1,.string who.2,.string what] 45)) = wA at *
    refine (HC.out wA).mono ?_;rintro e w1 ⟨rfl,b1⟩;have k1:=hbA.trans (b1.mono hbA.size);have r4:=(b1.cell (p:=⟨w.heap.size,4,none⟩) (by show w.heap.size < _; omega)).trans q4
    go_wp2_with (go_at_call 68; refine (implWordValid_any _ _ hwt).mono ?_; rintro e w' ⟨rfl,rfl⟩)
    go_ret;exact ⟨ret_bool HQ.out.symm,k1⟩
set_option maxHeartbeats 800000 in
theorem specActivityValid_any (kind num : Int) (who : ElHandle) (what : ByteArray) (w : World) (hw0 : who.1.size ≤ maxLen) (hw1 : who.2.size ≤ maxLen) (hwt : what.size ≤ maxLen) : Calls Tryz.prog 91 #[.agg #[.int .i64 kind,.int .i64 num,.string who.1,.string who.2,.string what]] w fun e w' => e = .returned (.bool (acB kind num who what)) ∧ Below w.heap.size w w':=by
 have hbA : Below w.heap.size w (w.alloc (.cells #[.int .i64 kind,.int .i64 num,.string who.1,.string who.2,.string what] 45)):=(Below.refl _ _).alloc (Nat.le_refl _) _;have hzA : w.heap.size < (w.alloc (.cells #[.int .i64 kind,.int .i64 num,.string who.1,.string who.2,.string what] 45)).heap.size:=by simp
 have q0 : (w.alloc (.cells #[.int .i64 kind,.int .i64 num,.string who.1,.string who.2,.string what] 45)).cell? ⟨w.heap.size,0,none⟩ = some (Value.int .i64 kind):=by rw [World.cell?_alloc_at _ _ _ _ rfl]; rfl
 have q1 : (w.alloc (.cells #[.int .i64 kind,.int .i64 num,.string who.1,.string who.2,.string what] 45)).cell? ⟨w.heap.size,1,none⟩ = some (Value.int .i64 num):=by rw [World.cell?_alloc_at _ _ _ _ rfl]; rfl
 have q2 : (w.alloc (.cells #[.int .i64 kind,.int .i64 num,.string who.1,.string who.2,.string what] 45)).cell? ⟨w.heap.size,2,none⟩ = some (Value.string who.1):=by rw [World.cell?_alloc_at _ _ _ _ rfl]; rfl
 have q3 : (w.alloc (.cells #[.int .i64 kind,.int .i64 num,.string who.1,.string who.2,.string what] 45)).cell? ⟨w.heap.size,3,none⟩ = some (Value.string who.2):=by rw [World.cell?_alloc_at _ _ _ _ rfl]; rfl
 have q4 : (w.alloc (.cells #[.int .i64 kind,.int .i64 num,.string who.1,.string who.2,.string what] 45)).cell? ⟨w.heap.size,4,none⟩ = some (Value.string what):=by rw [World.cell?_alloc_at _ _ _ _ rfl]; rfl
 have hcall:=fun W => specHandleValid_b who.1 who.2 W hw0 hw1
 rw [show (who.1,who.2) = who from rfl] at hcall;cases h1 : inB kind 0 5
 ·have HQ:=Lib.hid (acB_1 num who what h1)
  go_enter Tryz.func91,Tryz.ntmps91
  go_wp2_with (go_at_call 81; refine (l1In_any _ _ _ _).mono ?_; rintro e w' ⟨rfl,rfl⟩)
  go_ret;exact ⟨ret_bool HQ.out.symm,hbA⟩
 ·cases h2 : inB num 0 1000000000
  ·have HQ:=Lib.hid (acB_2 kind who what h2)
   go_enter Tryz.func91,Tryz.ntmps91
   go_wp2_with (go_at_call 81; refine (l1In_any _ _ _ _).mono ?_; rintro e w' ⟨rfl,rfl⟩)
   go_ret;exact ⟨ret_bool HQ.out.symm,hbA⟩
  ·cases h3 : hvB who
   ·have HQ:=Lib.hid (acB_3 kind num what h3)
    rw [h3] at hcall;have HC:=Lib.hid hcall;clear hcall h3;go_enter Tryz.func91,Tryz.ntmps91
    go_wp2_with (go_at_call 81; refine (l1In_any _ _ _ _).mono ?_; rintro e w' ⟨rfl,rfl⟩)
    clear h1 h2;generalize (w.alloc (.cells #[.int .i64 kind,.int .i64 num,.string who.1,.string who.2,.string what] 45)) = wA at *
    refine (HC.out wA).mono ?_;rintro e w1 ⟨rfl,b1⟩;have k1:=hbA.trans (b1.mono hbA.size);have r4:=(b1.cell (p:=⟨w.heap.size,4,none⟩) (by show w.heap.size < _; omega)).trans q4
    go_wp2_with fail
    go_ret;exact ⟨ret_bool HQ.out.symm,k1⟩
   ·have HQ:=Lib.hid (acB_4 what h1 h2 h3)
    rw [h3] at hcall;have HC:=Lib.hid hcall;clear hcall h3;go_enter Tryz.func91,Tryz.ntmps91
    go_wp2_with (go_at_call 81; refine (l1In_any _ _ _ _).mono ?_; rintro e w' ⟨rfl,rfl⟩)
    clear h1 h2;generalize (w.alloc (.cells #[.int .i64 kind,.int .i64 num,.string who.1,.string who.2,.string what] 45)) = wA at *
    refine (HC.out wA).mono ?_;rintro e w1 ⟨rfl,b1⟩;have k1:=hbA.trans (b1.mono hbA.size);have r4:=(b1.cell (p:=⟨w.heap.size,4,none⟩) (by show w.heap.size < _; omega)).trans q4
    go_wp2_with (go_at_call 119; refine (specWordValid_any _ _ hwt).mono ?_; rintro e w' ⟨rfl,rfl⟩)
    go_ret;exact ⟨ret_bool HQ.out.symm,k1⟩
theorem implMarkText_any (n : Int) (w : World) : Calls Tryz.prog 162 #[.int .i64 n] w fun e w' => e = .returned (.string (mkOf n)) ∧ w = w':=by
 by_cases h : 0 ≤ n ∧ n ≤ 1000000000
 ·obtain ⟨h0,h1⟩:=h
  obtain ⟨N,rfl⟩:=Int.eq_ofNat_of_zero_le h0;have hin:=inB_true (n:=(N : Int)) (lo:=0) (hi:=1000000000) h0 h1;have HQ:=Lib.hid (mkOf_yes (n:=N) (by omega));have g1 : decide ((N : Int) < 0) = false:=decide_eq_false (by omega);have g2 : decide (1000000000 < (N : Int)) = false:=decide_eq_false (by omega);go_enter Tryz.func162,Tryz.ntmps162
  go_wp2_with fail
  go_loop [0,3] (fun i t => ∃ (n : Nat) (x : ByteArray),n ≤ N ∧ x.size + n ≤ N + 1 ∧ Hid (mkT N = mkP n ++ x) ∧ i = .int .i64 n ∧ t = .string x) (fun i _ => (intOf i).toNat)
  case atStart => exact ⟨N,dig36 (N % 36),Nat.le_refl _,by rw [dig36_size (Nat.mod_lt _ (by omega))]; omega,Lib.hid rfl,rfl,by first | rfl | (unfold dig36; simp; omega)⟩
  case round =>
   obtain ⟨n,x,hn,hx,hT,rfl,rfl⟩:=hrel;by_cases hlt : n < 36
   ·have d0 : decide ((36 : Int) ≤ (n : Int)) = false:=decide_eq_false (by omega)
    have HX:=Lib.hid (show mkOf (N : Int) = x by rw [HQ.out,hT.out,mkP_lt hlt,empty_app])
    go_wp2_with fail
    go_ret;exact ⟨ret_st HX.out.symm,rfl⟩
   ·have d0 : decide ((36 : Int) ≤ (n : Int)) = true:=decide_eq_true (by omega)
    have HN:=Lib.hid (hT.out.trans (mkP_step hlt x));have hz:=dig36_size (d:=n / 36 % 36) (Nat.mod_lt _ (by omega));have HZ:=Lib.hid hz;clear hz
    go_wp2_with fail
    go_round
    case rel => exact ⟨n / 36,dig36 (n / 36 % 36) ++ x,by omega,by rw [ByteArray.size_append,HZ.out]; omega,HN,by go_num,by first | rfl | (unfold dig36; simp; omega)⟩
    case measure => first | (simp [intOf]; done) | (simp [intOf]; omega)
 ·have hin:=inB_false (n:=n) (lo:=0) (hi:=1000000000) (by omega)
  have HQ:=Lib.hid (mkOf_no (n:=n) (by omega));by_cases h0 : n < 0
  ·have g1 : decide (n < 0) = true:=decide_eq_true h0
   go_enter Tryz.func162,Tryz.ntmps162
   go_wp2_with fail
   go_ret;exact ⟨ret_st HQ.out.symm,rfl⟩
  ·have g1 : decide (n < 0) = false:=decide_eq_false h0
   have g2 : decide (1000000000 < n) = true:=decide_eq_true (by omega);go_enter Tryz.func162,Tryz.ntmps162
   go_wp2_with fail
   go_ret;exact ⟨ret_st HQ.out.symm,rfl⟩
set_option maxHeartbeats 800000 in
theorem specMarkText_any (n : Int) (w : World) : Calls Tryz.prog 93 #[.int .i64 n] w fun e w' => e = .returned (.string (mkOf n)) ∧ w = w':=by
 by_cases h : 0 ≤ n ∧ n ≤ 1000000000
 ·obtain ⟨h0,h1⟩:=h
  obtain ⟨N,rfl⟩:=Int.eq_ofNat_of_zero_le h0;have hin:=inB_true (n:=(N : Int)) (lo:=0) (hi:=1000000000) h0 h1;have HQ:=Lib.hid (mkOf_yes (n:=N) (by omega));have g1 : decide ((N : Int) < 0) = false:=decide_eq_false (by omega);have g2 : decide (1000000000 < (N : Int)) = false:=decide_eq_false (by omega);go_enter Tryz.func93,Tryz.ntmps93
  go_wp2_with (go_at_call 81; refine (l1In_any _ _ _ _).mono ?_; rintro e w' ⟨rfl,rfl⟩)
  go_loop [0,4] (fun i t => ∃ (n : Nat) (x : ByteArray),n ≤ N ∧ x.size + n ≤ N + 1 ∧ Hid (mkT N = mkP n ++ x) ∧ i = .int .i64 n ∧ t = .string x) (fun i _ => (intOf i).toNat)
  case atStart => exact ⟨N,dig36 (N % 36),Nat.le_refl _,by rw [dig36_size (Nat.mod_lt _ (by omega))]; omega,Lib.hid rfl,rfl,by first | rfl | (unfold dig36; simp; omega)⟩
  case round =>
   obtain ⟨n,x,hn,hx,hT,rfl,rfl⟩:=hrel;by_cases hlt : n < 36
   ·have d0 : decide ((36 : Int) ≤ (n : Int)) = false:=decide_eq_false (by omega)
    have HX:=Lib.hid (show mkOf (N : Int) = x by rw [HQ.out,hT.out,mkP_lt hlt,empty_app])
    go_wp2_with fail
    go_ret;exact ⟨ret_st HX.out.symm,rfl⟩
   ·have d0 : decide ((36 : Int) ≤ (n : Int)) = true:=decide_eq_true (by omega)
    have HN:=Lib.hid (hT.out.trans (mkP_step hlt x));have hz:=dig36_size (d:=n / 36 % 36) (Nat.mod_lt _ (by omega));have HZ:=Lib.hid hz;clear hz
    go_wp2_with fail
    go_round
    case rel => exact ⟨n / 36,dig36 (n / 36 % 36) ++ x,by omega,by rw [ByteArray.size_append,HZ.out]; omega,HN,by go_num,by first | rfl | (unfold dig36; simp; omega)⟩
    case measure => first | (simp [intOf]; done) | (simp [intOf]; omega)
 ·have hin:=inB_false (n:=n) (lo:=0) (hi:=1000000000) (by omega)
  have HQ:=Lib.hid (mkOf_no (n:=n) (by omega));go_enter Tryz.func93,Tryz.ntmps93
  go_wp2_with (go_at_call 81; refine (l1In_any _ _ _ _).mono ?_; rintro e w' ⟨rfl,rfl⟩)
  go_ret;exact ⟨ret_st HQ.out.symm,rfl⟩
end Go.Proofs.YtfnmlffpnmmcdaaGreatDoor
namespace Go.Proofs.YtfnmlffpnmmcdaaGreatDoor
set_option maxRecDepth 100000
open Go.RowKit
theorem implHandleText_any (a b : ByteArray) (w : World) (ha : a.size ≤ maxLen) (hb : b.size ≤ maxLen) : Calls Tryz.prog 97 #[.agg #[.string a,.string b]] w fun e w' => e = .returned (.string (htOf (a,b))) ∧ Below w.heap.size w w':=by
 have hbA : Below w.heap.size w (w.alloc (.cells #[.string a,.string b] 29)):=(Below.refl _ _).alloc (Nat.le_refl _) _;have hzA : w.heap.size < (w.alloc (.cells #[.string a,.string b] 29)).heap.size:=by simp
 have q0 : (w.alloc (.cells #[.string a,.string b] 29)).cell? ⟨w.heap.size,0,none⟩ = some (Value.string a):=by rw [World.cell?_alloc_at _ _ _ _ rfl]; rfl
 have q1 : (w.alloc (.cells #[.string a,.string b] 29)).cell? ⟨w.heap.size,1,none⟩ = some (Value.string b):=by rw [World.cell?_alloc_at _ _ _ _ rfl]; rfl
 have hcall:=fun W => implHandleValid_b a b W ha hb
 cases hv : hvB (a,b)
 ·have HQ:=Lib.hid (htOf_no hv)
  rw [hv] at hcall;have HC:=Lib.hid hcall;clear hcall hv;go_enter Tryz.func97,Tryz.ntmps97
  go_wp2_with fail
  generalize (w.alloc (.cells #[.string a,.string b] 29)) = wA at *
  refine (HC.out wA).mono ?_;rintro e w1 ⟨rfl,b1⟩;have k1:=hbA.trans (b1.mono hbA.size);have r0:=(b1.cell (p:=⟨w.heap.size,0,none⟩) (by show w.heap.size < _; omega)).trans q0;have r1:=(b1.cell (p:=⟨w.heap.size,1,none⟩) (by show w.heap.size < _; omega)).trans q1
  go_wp2_with fail
  go_ret;exact ⟨ret_st HQ.out.symm,k1⟩
 ·have HQ:=Lib.hid (htOf_yes hv)
  obtain ⟨⟨_,hsa⟩,_,hsb⟩:=hv_sizes hv;simp only at hsa hsb;rw [hv] at hcall;have HC:=Lib.hid hcall;clear hcall hv;go_enter Tryz.func97,Tryz.ntmps97
  go_wp2_with fail
  generalize (w.alloc (.cells #[.string a,.string b] 29)) = wA at *
  refine (HC.out wA).mono ?_;rintro e w1 ⟨rfl,b1⟩;have k1:=hbA.trans (b1.mono hbA.size);have r0:=(b1.cell (p:=⟨w.heap.size,0,none⟩) (by show w.heap.size < _; omega)).trans q0;have r1:=(b1.cell (p:=⟨w.heap.size,1,none⟩) (by show w.heap.size < _; omega)).trans q1
  go_wp2_with fail
  go_ret;exact ⟨ret_st HQ.out.symm,k1⟩
theorem specHandleText_any (a b : ByteArray) (w : World) (ha : a.size ≤ maxLen) (hb : b.size ≤ maxLen) : Calls Tryz.prog 36 #[.agg #[.string a,.string b]] w fun e w' => e = .returned (.string (htOf (a,b))) ∧ Below w.heap.size w w':=by
 have hbA : Below w.heap.size w (w.alloc (.cells #[.string a,.string b] 29)):=(Below.refl _ _).alloc (Nat.le_refl _) _;have hzA : w.heap.size < (w.alloc (.cells #[.string a,.string b] 29)).heap.size:=by simp
 have q0 : (w.alloc (.cells #[.string a,.string b] 29)).cell? ⟨w.heap.size,0,none⟩ = some (Value.string a):=by rw [World.cell?_alloc_at _ _ _ _ rfl]; rfl
 have q1 : (w.alloc (.cells #[.string a,.string b] 29)).cell? ⟨w.heap.size,1,none⟩ = some (Value.string b):=by rw [World.cell?_alloc_at _ _ _ _ rfl]; rfl
 have hcall:=fun W => specHandleValid_b a b W ha hb
 cases hv : hvB (a,b)
 ·have HQ:=Lib.hid (htOf_no hv)
  rw [hv] at hcall;have HC:=Lib.hid hcall;clear hcall hv;go_enter Tryz.func36,Tryz.ntmps36
  go_wp2_with fail
  generalize (w.alloc (.cells #[.string a,.string b] 29)) = wA at *
  refine (HC.out wA).mono ?_;rintro e w1 ⟨rfl,b1⟩;have k1:=hbA.trans (b1.mono hbA.size);have r0:=(b1.cell (p:=⟨w.heap.size,0,none⟩) (by show w.heap.size < _; omega)).trans q0;have r1:=(b1.cell (p:=⟨w.heap.size,1,none⟩) (by show w.heap.size < _; omega)).trans q1
  go_wp2_with fail
  go_ret;exact ⟨ret_st HQ.out.symm,k1⟩
 ·have HQ:=Lib.hid (htOf_yes hv)
  obtain ⟨⟨_,hsa⟩,_,hsb⟩:=hv_sizes hv;simp only at hsa hsb;rw [hv] at hcall;have HC:=Lib.hid hcall;clear hcall hv;go_enter Tryz.func36,Tryz.ntmps36
  go_wp2_with fail
  generalize (w.alloc (.cells #[.string a,.string b] 29)) = wA at *
  refine (HC.out wA).mono ?_;rintro e w1 ⟨rfl,b1⟩;have k1:=hbA.trans (b1.mono hbA.size);have r0:=(b1.cell (p:=⟨w.heap.size,0,none⟩) (by show w.heap.size < _; omega)).trans q0;have r1:=(b1.cell (p:=⟨w.heap.size,1,none⟩) (by show w.heap.size < _; omega)).trans q1
  go_wp2_with fail
  go_ret;exact ⟨ret_st HQ.out.symm,k1⟩
set_option maxHeartbeats 1600000 in
theorem implReadHandle_any (s : ByteArray) (w : World) (hs : s.size ≤ maxLen) : Calls Tryz.prog 70 #[.string s] w fun e w' => e = .returned (.tuple #[.agg #[.string (rhOf s).1,.string (rhOf s).2],.bool (rhOk s)]) ∧ Below w.heap.size w w':=by
 have oR : OwnE 2 encHandle 29 (w.alloc (.cells #[.string { data:=#[] },.string { data:=#[] }] 29)) w.heap.size (some ⟨w.heap.size,0,none⟩) 1 [({ data:=#[] },{ data:=#[] })]:=Own.lit w 29 2 1 #[.string { data:=#[] },.string { data:=#[] }] (cE 2 encHandle [({ data:=#[] },{ data:=#[] })]) (by simp only [maxLen]; omega) rfl;have hbA : Below w.heap.size w (w.alloc (.cells #[.string { data:=#[] },.string { data:=#[] }] 29)):=(Below.refl _ _).alloc (Nat.le_refl _) _;have hzA : w.heap.size < (w.alloc (.cells #[.string { data:=#[] },.string { data:=#[] }] 29)).heap.size:=by simp
 have hhp:=Tryz.strings_HasPrefix s { data:=#[64] };simp only [hp_one s 64 (by decide)] at hhp;by_cases h1 : bb s 0 = 64
 ·have hp:=size_pos_of h1 (by omega)
  rw [decide_eq_true (show bb s 0 = ((64 : UInt8).toNat : Int) from h1)] at hhp;have HP:=Lib.hid hhp;clear hhp;have hcut:=fun W => cut_any (s.extract 1 s.size) 64 W (by rw [size_ext (Nat.le_refl _)]; omega)
  have hft:=fb_tail (s:=s) (c:=64) (a:=1) (by omega);have hz1 : (s.extract 1 s.size).size = s.size - 1:=size_ext (Nat.le_refl _);have hk1:=fb_ge (s:=s) (c:=64) (a:=1) (by omega);have hkl:=fb_le (s:=s) (c:=64) (a:=1) (by omega);have hc64 : (((64 : UInt8).toNat : Nat) : Int) = 64:=rfl;by_cases h2 : rhK s < s.size
  ·have h2f : fb (s.extract 1 s.size) (((64 : UInt8).toNat : Nat) : Int) 0 < (s.extract 1 s.size).size:=by rw [hz1,hc64]; unfold rhK at h2; omega
   have hA : ctA (s.extract 1 s.size) 64 = (rhH s).1:=by
    unfold ctA; rw [if_pos h2f,ext_ext (Nat.le_refl _) (by rw [hz1] at h2f; omega),Nat.add_zero,Nat.add_comm,hc64,hft]; rfl
   have hB : ctB (s.extract 1 s.size) 64 = (rhH s).2:=by
    unfold ctB; rw [if_pos h2f,hz1,ext_ext (Nat.le_refl _) (by omega)]; show s.extract _ _ = s.extract (rhK s + 1) s.size
    rw [hc64,show 1 + (fb (s.extract 1 s.size) 64 0 + 1) = rhK s + 1 by unfold rhK; omega,show 1 + (s.size - 1) = s.size by omega]
   have hF : ctF (s.extract 1 s.size) 64 = true:=decide_eq_true h2f;rw [hA,hB,hF] at hcut;have HC:=Lib.hid hcut;have hn1 : (rhH s).1.size ≤ maxLen:=by unfold rhH; rw [ByteArray.size_extract]; omega
   have hn2 : (rhH s).2.size ≤ maxLen:=by unfold rhH; rw [ByteArray.size_extract]; omega
   have hcall:=fun W => implHandleValid_b (rhH s).1 (rhH s).2 W hn1 hn2
   rw [show ((rhH s).1,(rhH s).2) = rhH s from rfl] at hcall;clear hcut hA hB hF h2f hft hz1 hc64;cases hv : hvB (rhH s)
   ·have hok:=rhOk_no3 hv
    have HQ:=Lib.hid (show rhOf s = ({ data:=#[] },{ data:=#[] }) ∧ rhOk s = false from ⟨rhOf_no hok,hok⟩);rw [hv] at hcall;have HV:=Lib.hid hcall;clear hcall hok hv h1 h2;go_enter Tryz.func70,Tryz.ntmps70
    go_wp2_with fail
    generalize (w.alloc (.cells #[.string { data:=#[] },.string { data:=#[] }] 29)) = wA at *
    refine (HP.out wA).mono ?_;rintro e w' ⟨rfl,rfl⟩
    go_wp2_with fail
    refine (HC.out _).mono ?_;rintro e w1 ⟨rfl,b1⟩;have oR1:=Own.below oR b1;have k1:=hbA.trans (b1.mono hbA.size);have z1 : w.heap.size < w1.heap.size:=by have:=b1.size; omega
    clear oR b1;have oR2:=Own.below oR1 ((Below.refl _ _).alloc (Nat.le_refl _) (.cells #[.string (rhH s).1,.string (rhH s).2] 29));have k2:=k1.alloc k1.size (.cells #[.string (rhH s).1,.string (rhH s).2] 29);have z2 : w1.heap.size < (w1.alloc (.cells #[.string (rhH s).1,.string (rhH s).2] 29)).heap.size:=by simp
    have p0 : (w1.alloc (.cells #[.string (rhH s).1,.string (rhH s).2] 29)).cell? ⟨w1.heap.size,0,none⟩ = some (Value.string (rhH s).1):=by rw [World.cell?_alloc_at _ _ _ _ rfl]; rfl
    have p1 : (w1.alloc (.cells #[.string (rhH s).1,.string (rhH s).2] 29)).cell? ⟨w1.heap.size,1,none⟩ = some (Value.string (rhH s).2):=by rw [World.cell?_alloc_at _ _ _ _ rfl]; rfl
    go_wp2_with fail
    generalize (w1.alloc (.cells #[.string (rhH s).1,.string (rhH s).2] 29)) = w2 at *
    refine (HV.out w2).mono ?_;rintro e w3 ⟨rfl,b3⟩;have oR3:=Own.below oR2 b3;have k3:=k2.trans (b3.mono k2.size);have p0x:=(b3.cell (p:=⟨w1.heap.size,0,none⟩) z2).trans p0;have p1x:=(b3.cell (p:=⟨w1.heap.size,1,none⟩) z2).trans p1;clear p0 p1 oR1 oR2;have r0:=oR3.cell (b:=w.heap.size) rfl (j:=0) (by simp);have r1:=oR3.cell (b:=w.heap.size) rfl (j:=1) (by simp);have rf0:=oR3.frozen (b:=w.heap.size) rfl 0;have rf1:=oR3.frozen (b:=w.heap.size) rfl 1;have r0 : _ = some (Value.string { data:=#[] }):=r0;have r1 : _ = some (Value.string { data:=#[] }):=r1
    go_wp2_with fail
    exact bodyPost_ret (v:=.tuple #[.agg #[.string { data:=#[] },.string { data:=#[] }],.bool false]) (by simp [results,Tryz.results70,go_sem,r0,r1]) rfl ⟨by rw [HQ.out.1,HQ.out.2],((k3.setCell (p:=⟨w.heap.size,0,none⟩) (Nat.le_refl _) _).setCell (p:=⟨w.heap.size,1,none⟩) (Nat.le_refl _) _)⟩
   ·have hok:=rhOk_yes h1 h2 hv
    have HQ:=Lib.hid (show rhOf s = rhH s ∧ rhOk s = true from ⟨rhOf_yes hok,hok⟩);rw [hv] at hcall;have HV:=Lib.hid hcall;clear hcall hok hv h1 h2;go_enter Tryz.func70,Tryz.ntmps70
    go_wp2_with fail
    generalize (w.alloc (.cells #[.string { data:=#[] },.string { data:=#[] }] 29)) = wA at *
    refine (HP.out wA).mono ?_;rintro e w' ⟨rfl,rfl⟩
    go_wp2_with fail
    refine (HC.out _).mono ?_;rintro e w1 ⟨rfl,b1⟩;have oR1:=Own.below oR b1;have k1:=hbA.trans (b1.mono hbA.size);have z1 : w.heap.size < w1.heap.size:=by have:=b1.size; omega
    clear oR b1;have oR2:=Own.below oR1 ((Below.refl _ _).alloc (Nat.le_refl _) (.cells #[.string (rhH s).1,.string (rhH s).2] 29));have k2:=k1.alloc k1.size (.cells #[.string (rhH s).1,.string (rhH s).2] 29);have z2 : w1.heap.size < (w1.alloc (.cells #[.string (rhH s).1,.string (rhH s).2] 29)).heap.size:=by simp
    have p0 : (w1.alloc (.cells #[.string (rhH s).1,.string (rhH s).2] 29)).cell? ⟨w1.heap.size,0,none⟩ = some (Value.string (rhH s).1):=by rw [World.cell?_alloc_at _ _ _ _ rfl]; rfl
    have p1 : (w1.alloc (.cells #[.string (rhH s).1,.string (rhH s).2] 29)).cell? ⟨w1.heap.size,1,none⟩ = some (Value.string (rhH s).2):=by rw [World.cell?_alloc_at _ _ _ _ rfl]; rfl
    go_wp2_with fail
    generalize (w1.alloc (.cells #[.string (rhH s).1,.string (rhH s).2] 29)) = w2 at *
    refine (HV.out w2).mono ?_;rintro e w3 ⟨rfl,b3⟩;have oR3:=Own.below oR2 b3;have k3:=k2.trans (b3.mono k2.size);have p0x:=(b3.cell (p:=⟨w1.heap.size,0,none⟩) z2).trans p0;have p1x:=(b3.cell (p:=⟨w1.heap.size,1,none⟩) z2).trans p1;clear p0 p1 oR1 oR2;have r0:=oR3.cell (b:=w.heap.size) rfl (j:=0) (by simp);have r1:=oR3.cell (b:=w.heap.size) rfl (j:=1) (by simp);have rf0:=oR3.frozen (b:=w.heap.size) rfl 0;have rf1:=oR3.frozen (b:=w.heap.size) rfl 1;have r0 : _ = some (Value.string { data:=#[] }):=r0;have r1 : _ = some (Value.string { data:=#[] }):=r1
    go_wp2_with fail
    exact bodyPost_ret (v:=.tuple #[.agg #[.string (rhH s).1,.string (rhH s).2],.bool true]) (by simp [results,Tryz.results70,go_sem,r0,r1]) rfl ⟨by rw [HQ.out.1,HQ.out.2],((k3.setCell (p:=⟨w.heap.size,0,none⟩) (Nat.le_refl _) _).setCell (p:=⟨w.heap.size,1,none⟩) (Nat.le_refl _) _)⟩
  ·have h2f : ¬ fb (s.extract 1 s.size) (((64 : UInt8).toNat : Nat) : Int) 0 < (s.extract 1 s.size).size:=by rw [hz1,hc64]; unfold rhK at h2; omega
   have hF : ctF (s.extract 1 s.size) 64 = false:=decide_eq_false h2f;rw [hF] at hcut;have HC:=Lib.hid hcut;have hok:=rhOk_no2 (s:=s) (by omega);have HQ:=Lib.hid (show rhOf s = ({ data:=#[] },{ data:=#[] }) ∧ rhOk s = false from ⟨rhOf_no hok,hok⟩);clear hcut hF h2f hft hz1 hc64 hok h1 h2;generalize ctA (s.extract 1 s.size) 64 = sa at *
   generalize ctB (s.extract 1 s.size) 64 = sb at *
   go_enter Tryz.func70,Tryz.ntmps70
   go_wp2_with fail
   generalize (w.alloc (.cells #[.string { data:=#[] },.string { data:=#[] }] 29)) = wA at *
   refine (HP.out wA).mono ?_;rintro e w' ⟨rfl,rfl⟩
   go_wp2_with fail
   refine (HC.out _).mono ?_;rintro e w1 ⟨rfl,b1⟩;have oR1:=Own.below oR b1;have k1:=hbA.trans (b1.mono hbA.size);have z1 : w.heap.size < w1.heap.size:=by have:=b1.size; omega
   clear oR b1;have oR2:=Own.below oR1 ((Below.refl _ _).alloc (Nat.le_refl _) (.cells #[.string sa,.string sb] 29));have k2:=k1.alloc k1.size (.cells #[.string sa,.string sb] 29);have r0:=oR1.cell (b:=w.heap.size) rfl (j:=0) (by simp);have r1:=oR1.cell (b:=w.heap.size) rfl (j:=1) (by simp);have rf0:=oR1.frozen (b:=w.heap.size) rfl 0;have rf1:=oR1.frozen (b:=w.heap.size) rfl 1;have r0 : _ = some (Value.string { data:=#[] }):=r0;have r1 : _ = some (Value.string { data:=#[] }):=r1
   go_wp2_with fail
   exact bodyPost_ret (v:=.tuple #[.agg #[.string { data:=#[] },.string { data:=#[] }],.bool false]) (by simp [results,Tryz.results70,go_sem,r0,r1,z1]) rfl ⟨by rw [HQ.out.1,HQ.out.2],(((k1.setCell (p:=⟨w.heap.size,0,none⟩) (Nat.le_refl _) _).setCell (p:=⟨w.heap.size,1,none⟩) (Nat.le_refl _) _).alloc (by simp; omega) _)⟩
 ·rw [decide_eq_false (show ¬ bb s 0 = ((64 : UInt8).toNat : Int) from h1)] at hhp
  have HP:=Lib.hid hhp;have hok:=rhOk_no1 h1;have HQ:=Lib.hid (show rhOf s = ({ data:=#[] },{ data:=#[] }) ∧ rhOk s = false from ⟨rhOf_no hok,hok⟩);clear hhp hok h1;have r0:=oR.cell (b:=w.heap.size) rfl (j:=0) (by simp);have r1:=oR.cell (b:=w.heap.size) rfl (j:=1) (by simp);have rf0:=oR.frozen (b:=w.heap.size) rfl 0;have rf1:=oR.frozen (b:=w.heap.size) rfl 1;have r0 : _ = some (Value.string { data:=#[] }):=r0;have r1 : _ = some (Value.string { data:=#[] }):=r1;go_enter Tryz.func70,Tryz.ntmps70
  go_wp2_with fail
  generalize (w.alloc (.cells #[.string { data:=#[] },.string { data:=#[] }] 29)) = wA at *
  refine (HP.out wA).mono ?_;rintro e w' ⟨rfl,rfl⟩
  go_wp2_with fail
  exact bodyPost_ret (v:=.tuple #[.agg #[.string { data:=#[] },.string { data:=#[] }],.bool false]) (by simp [results,Tryz.results70,go_sem,r0,r1]) rfl ⟨by rw [HQ.out.1,HQ.out.2],((hbA.setCell (p:=⟨w.heap.size,0,none⟩) (Nat.le_refl _) _).setCell (p:=⟨w.heap.size,1,none⟩) (Nat.le_refl _) _)⟩
def KwTab (w : World) : Prop:=∀ k,k < 6 → w.cell? ⟨0,k,none⟩ = some (.string (kwOf k))
theorem KwTab.lt {w : World} (h : KwTab w) : 0 < w.heap.size:=World.block_lt_of_cell? _ _ (h 0 (by omega))
theorem KwTab.below {B : Nat} {w w' : World} (h : KwTab w) (hb : Below B w w') (hB : w.heap.size ≤ B) : KwTab w':=fun k hk =>
 (hb.cell (p:=⟨_,k,none⟩) (Nat.lt_of_lt_of_le h.lt hB)).trans (h k hk)
theorem KwTab.belowL {B : Nat} {w w' : World} (h : KwTab w) (hb : Below B w w') (hB : 0 < B) : KwTab w':=fun k hk =>
 (hb.cell (p:=⟨_,k,none⟩) hB).trans (h k hk)
set_option maxHeartbeats 1600000 in
theorem implActivityText_any (kind : Nat) (num : Int) (who : ElHandle) (what : ByteArray) (w : World) (hk : kind < 6) (hac : acB kind num who what = true) (hT : KwTab w) : Calls Tryz.prog 135 #[.agg #[.int .i64 kind,.int .i64 num,.string who.1,.string who.2,.string what]] w fun e w' => e = .returned (.string (acOf kind num who what)) ∧ Below w.heap.size w w':=by
 obtain ⟨⟨hk0,hk5⟩,⟨hn0,hn1⟩,hv,hwd⟩:=acB_of hac;obtain ⟨⟨_,z0⟩,_,z1⟩:=hv_sizes hv;have z2:=(Word.of hwd).2.1;have hw0 : who.1.size ≤ maxLen:=by simp only [maxLen]; omega
 have hw1 : who.2.size ≤ maxLen:=by simp only [maxLen]; omega
 have hwt : what.size ≤ maxLen:=by simp only [maxLen]; omega
 have c0:=hT kind hk;have hgl:=hT.lt;have hbA : Below w.heap.size w (w.alloc (.cells #[.int .i64 kind,.int .i64 num,.string who.1,.string who.2,.string what] 45)):=(Below.refl _ _).alloc (Nat.le_refl _) _;have hzA : w.heap.size < (w.alloc (.cells #[.int .i64 kind,.int .i64 num,.string who.1,.string who.2,.string what] 45)).heap.size:=by simp
 have q0 : (w.alloc (.cells #[.int .i64 kind,.int .i64 num,.string who.1,.string who.2,.string what] 45)).cell? ⟨w.heap.size,0,none⟩ = some (Value.int .i64 kind):=by rw [World.cell?_alloc_at _ _ _ _ rfl]; rfl
 have q1 : (w.alloc (.cells #[.int .i64 kind,.int .i64 num,.string who.1,.string who.2,.string what] 45)).cell? ⟨w.heap.size,1,none⟩ = some (Value.int .i64 num):=by rw [World.cell?_alloc_at _ _ _ _ rfl]; rfl
 have q2 : (w.alloc (.cells #[.int .i64 kind,.int .i64 num,.string who.1,.string who.2,.string what] 45)).cell? ⟨w.heap.size,2,none⟩ = some (Value.string who.1):=by rw [World.cell?_alloc_at _ _ _ _ rfl]; rfl
 have q3 : (w.alloc (.cells #[.int .i64 kind,.int .i64 num,.string who.1,.string who.2,.string what] 45)).cell? ⟨w.heap.size,3,none⟩ = some (Value.string who.2):=by rw [World.cell?_alloc_at _ _ _ _ rfl]; rfl
 have q4 : (w.alloc (.cells #[.int .i64 kind,.int .i64 num,.string who.1,.string who.2,.string what] 45)).cell? ⟨w.heap.size,4,none⟩ = some (Value.string what):=by rw [World.cell?_alloc_at _ _ _ _ rfl]; rfl
 have hcall:=implActivityValid_any kind num who what;have hcall2:=fun W => implHandleText_any who.1 who.2 W hw0 hw1
 rw [show (who.1,who.2) = who from rfl] at hcall2;simp only [hac] at hcall;have HC:=Lib.hid hcall;have HC2:=Lib.hid hcall2;have HM:=Lib.hid (fun W => implMarkText_any num W);have HQ:=Lib.hid (show acOf kind num who what = kwOf kind ++ { data:=#[32] } ++ mkOf num ++ { data:=#[32] } ++ htOf who ++ { data:=#[32] } ++ what from rfl);have y0:=kwOf_size kind;have y1:=mkOf_size num;have y2:=htOf_size who;clear hcall hcall2 hac hv hwd;go_enter Tryz.func135,Tryz.ntmps135
 go_wp2_with fail
 generalize (w.alloc (.cells #[.int .i64 kind,.int .i64 num,.string who.1,.string who.2,.string what] 45)) = wA at *
 refine (HC.out wA hw0 hw1 hwt).mono ?_;rintro e w1 ⟨rfl,b1⟩;have k1:=hbA.trans (b1.mono hbA.size);have zz1 : w.heap.size < w1.heap.size:=by have:=b1.size; omega
 have r0:=(b1.cell (p:=⟨w.heap.size,0,none⟩) (by show w.heap.size < _; omega)).trans q0;have r1:=(b1.cell (p:=⟨w.heap.size,1,none⟩) (by show w.heap.size < _; omega)).trans q1;have r2:=(b1.cell (p:=⟨w.heap.size,2,none⟩) (by show w.heap.size < _; omega)).trans q2;have r3:=(b1.cell (p:=⟨w.heap.size,3,none⟩) (by show w.heap.size < _; omega)).trans q3;have r4:=(b1.cell (p:=⟨w.heap.size,4,none⟩) (by show w.heap.size < _; omega)).trans q4;generalize mkOf num = mk at *
 generalize htOf who = ht at *
 have c1:=(k1.cell (p:=⟨_,kind,none⟩) (by exact hgl)).trans c0;generalize kwOf kind = kw at *
 have hgl1 : 0 < w1.heap.size:=by omega
 have fc:=fun (z : Bel w1.heap.size w1) => Bel.cell c1 hgl1 z
 have f0:=fun (z : Bel w1.heap.size w1) => Bel.cell r0 zz1 z
 have f1:=fun (z : Bel w1.heap.size w1) => Bel.cell r1 zz1 z
 have f2:=fun (z : Bel w1.heap.size w1) => Bel.cell r2 zz1 z
 have f3:=fun (z : Bel w1.heap.size w1) => Bel.cell r3 zz1 z
 have f4:=fun (z : Bel w1.heap.size w1) => Bel.cell r4 zz1 z
 clear q0 q1 q2 q3 q4 r0 r1 r2 r3 r4 c0 c1 b1 hbA;have hkt : ((kind : Int)).toNat = kind:=by omega
 have hk6 : (kind : Int) < 6:=by omega
 go_wp2_with fail
 refine wp_region_bel w1.heap.size (by kernel_rfl) (by kernel_rfl) ?_
 repeat (go_big_quiet_step (first | (go_at_call 162; exact Calls.bel (Nat.le_refl _) ((HM.out _).mono fun _ _ ⟨h1,h2⟩ => ⟨h1,h2 ▸ Below.refl _ _⟩)) | (go_at_call 97; exact Calls.bel (Nat.le_refl _) (HC2.out _))))
 refine wpQuiet_nil ?_;intro _ hw';obtain ⟨z,hw''⟩:=hw';subst hw''
 go_wp2_with fail
 go_ret;exact ⟨ret_st HQ.out.symm,k1.trans (z.h.mono k1.size)⟩
abbrev Spec:=Value → World → Prop
def slotv (a : Act) : Option Tmp → Value
 | some d => a.tmps.getD d undef
 | none => undef
def looseUpon (P : Program) (R : World → World → Prop) (G : Nat → World → Prop) (k : Nat) (s : Spec) (w : World) : Result Next → Prop
 | .ok (.value v) w' => R w w' ∧ G k w' ∧ s v w'
 | .ok .skip w' => R w w' ∧ G k w' ∧ s undef w'
 | .ok (.enter f args) w' => w' = w ∧ Calls P f args w (fun e w'' => ∃ v,e = .returned v ∧ R w w'' ∧ G k w'' ∧ s v w'')
 | _ => False
def looseRun (P : Program) (R : World → World → Prop) (G : Nat → World → Prop) (k : Nat) (s : Spec) (o : Oper) (a : Act) (w : World) : Prop:=looseUpon P R G k s w ((execOp a.eval o).run P w)
theorem wp_of_loose {P : Program} {R : World → World → Prop} {G : Nat → World → Prop} {k : Nat} {s : Spec} {o : Oper} {a : Act} {w : World} {K : Act → World → Prop} {Q : Exit → Act → World → Prop}
    (h : looseRun P R G k s o a w) (hk : ∀ v w',R w w' → G k w' → s v w' → K (a.put o.dst v) w') : o.wp P a w K Q:=by
 unfold looseRun at h;unfold Oper.wp;generalize (execOp a.eval o).run P w = r at *
 cases r with
 | ok n w' =>
  cases n <;> simp only [looseUpon] at h <;> simp only [Oper.upon]
  case value u => exact hk _ _ h.1 h.2.1 h.2.2
  case skip => exact hk _ _ h.1 h.2.1 h.2.2
  case enter f args =>
   obtain ⟨rfl,hc⟩:=h;exact hc.mono fun e w'' ⟨v,he,h1,h2,h3⟩ => by subst he; exact hk _ _ h1 h2 h3
 | halt x w' => simp only [looseUpon] at h
def depHold (l : List Oper) (specs : List Spec) (j : Nat) (a : Act) (w : World) : Prop :=
 match l[j]?,specs[j]? with
 | some o,some s => s (slotv a o.dst) w
 | _,_ => True
def depsL (l : List Oper) (specs : List Spec) (a : Act) (w : World) : List Edge → Prop
 | [] => True
 | e :: es => (Region.binds .any e = true → depHold l specs e.on a w) ∧ depsL l specs a w es
theorem depsL_of {l : List Oper} {specs : List Spec} {a : Act} {w : World} : ∀ {es : List Edge},(∀ e ∈ es,Region.binds .any e = true → depHold l specs e.on a w) → depsL l specs a w es
 | [],_ => trivial
 | _ :: _,h => ⟨h _ (List.mem_cons_self ..),depsL_of fun e he => h e (List.mem_cons_of_mem _ he)⟩
def dstsL (l : List Oper) : List Tmp:=l.filterMap (·.dst)
def StepOK (P : Program) (R : World → World → Prop) (G : Nat → World → Prop) (K0 K1 : Nat) (l : List Oper) (specs : List Spec) (a : Act) (w0 : World) (o : Oper) (s : Spec) (c : Nat) : Prop :=
 ∀ k a' w',K0 ≤ k → k + c ≤ K1 → R w0 w' → G k w' → (∀ t,(dstsL l).contains t = false → a'.tmps.getD t undef = a.tmps.getD t undef) → depsL l specs a' w' o.after.toList → looseRun P R G (k + c) s o a' w'
def looseSteps (S : Oper → Spec → Nat → Prop) : List Oper → List Spec → List Nat → Prop
 | o :: os,s :: ss,c :: cs => S o s c ∧ looseSteps S os ss cs
 | _,_,_ => True
theorem looseSteps_at {S : Oper → Spec → Nat → Prop} : ∀ {l : List Oper} {ss : List Spec} {cs : List Nat},looseSteps S l ss cs → ∀ {i : Nat} {o : Oper} {s : Spec} {c : Nat},l[i]? = some o → ss[i]? = some s → cs[i]? = some c → S o s c
 | o :: os,s :: ss,c :: cs,h,0,o',s',c',h1,h2,h3 => by
  simp at h1 h2 h3; subst h1; subst h2; subst h3; exact h.1
 | o :: os,s :: ss,c :: cs,h,i + 1,o',s',c',h1,h2,h3 => looseSteps_at h.2 (i:=i) (by simpa using h1) (by simpa using h2) (by simpa using h3)
 | [],_,_,_,_,_,_,_,h1,_,_ => by simp at h1
 | _ :: _,[],_,_,_,_,_,_,_,h2,_ => by simp at h2
 | _ :: _,_ :: _,[],_,_,_,_,_,_,_,h3 => by simp at h3
def looseAll (w' : World) (K : Act → Prop) : List Oper → List Spec → Act → Prop
 | o :: os,s :: ss,a => ∀ v,s v w' → looseAll w' K os ss (a.put o.dst v)
 | _,_,a => K a
theorem tmps_put (a : Act) (d : Option Tmp) (v : Value) (t : Nat) : (a.put d v).tmps[t]? = if d = some t ∧ t < a.tmps.size then some v else a.tmps[t]?:=by
 cases d with
 | none => simp [Act.put]
 | some d =>
  simp only [Act.put,Array.getElem?_setIfInBounds,Option.some.injEq];by_cases h : d = t
  ·subst h
   by_cases h2 : d < a.tmps.size
   ·simp [h2]
   ·simp [h2]
  ·simp [h]
theorem size_put (a : Act) (d : Option Tmp) (v : Value) : (a.put d v).tmps.size = a.tmps.size:=by cases d <;> simp [Act.put]
theorem defers_put (a : Act) (d : Option Tmp) (v : Value) : (a.put d v).defers = a.defers:=by cases d <;> rfl
theorem looseAll_use {w' : World} {K : Act → Prop} {a' : Act} : ∀ (l : List Oper) (ss : List Spec) (a0 : Act),ss.length = l.length → a'.tmps.size = a0.tmps.size → a'.defers = a0.defers →
    (∀ t,(dstsL l).contains t = false → a'.tmps[t]? = a0.tmps[t]?) → (∀ (i : Nat) (o : Oper) (s : Spec),l[i]? = some o → ss[i]? = some s → s (slotv a' o.dst) w') → looseAll w' K l ss a0 → K a'
 | [],[],a0,_,hs,hd,hk,_,h => by
  have ht : a'.tmps = a0.tmps:=Array.ext_getElem? fun t => hk t (by rfl)
  have : a' = a0:=by cases a'; cases a0; simp at ht hd; simp [ht,hd]
  rw [this]; exact h
 | o :: os,s :: ss,a0,hl,hs,hd,hk,hp,h => by
  have hv:=hp 0 o s rfl rfl;refine looseAll_use os ss (a0.put o.dst (slotv a' o.dst)) (by simpa using hl) (by rw [size_put]; exact hs) (by rw [defers_put]; exact hd) (fun t ht => ?_) (fun i o' s' h1 h2 => hp (i + 1) o' s' (by simpa using h1) (by simpa using h2)) (h _ hv);rw [tmps_put]
  split
  ·next hq =>
   obtain ⟨h1,h2⟩:=hq;rw [h1];have h3 : t < a'.tmps.size:=by rw [hs]; exact h2
   simp [slotv,h3]
  ·next hq =>
   by_cases hdt : o.dst = some t
   ·have h2 : ¬ t < a0.tmps.size:=fun h2 => hq ⟨hdt,h2⟩
    rw [Array.getElem?_eq_none (by rw [hs]; exact Nat.not_lt.1 h2),Array.getElem?_eq_none (Nat.not_lt.1 h2)]
   ·refine hk t ?_
    unfold dstsL at ht ⊢;rw [List.filterMap_cons]
    split
    ·exact ht
    ·next d hd2 =>
     have hne : d ≠ t:=fun e => hdt (by rw [hd2,e])
     rw [List.contains_cons,ht];simp [Ne.symm hne]
def edgesL (o : Oper) : List Nat:=(o.after.toList.filter (Region.binds .any)).map (·.on)
theorem mem_edges {o : Oper} {j : Nat} (h : j ∈ edgesL o) : ∃ e ∈ o.after,Region.binds .any e = true ∧ e.on = j:=by
 unfold edgesL at h;obtain ⟨e,he,rfl⟩:=List.mem_map.1 h;rw [List.mem_filter] at he;exact ⟨e,by simpa using he.1,he.2,rfl⟩
theorem edges_mem {o : Oper} {e : Edge} (he : e ∈ o.after) (hb : Region.binds .any e = true) : e.on ∈ edgesL o:=List.mem_map.2 ⟨e,List.mem_filter.2 ⟨by simpa using he,hb⟩,rfl⟩
def allAnc (l : List Oper) : Nat → List Nat → Bool
 | 0,_ => true
 | j + 1,S => S.contains j && allAnc l j (match l[j]? with | some o => edgesL o ++ S | none => S)
theorem allAnc_sound {l : List Oper} {p : Nat → Prop} (hdc : ∀ i o,l[i]? = some o → p i → ∀ j ∈ edgesL o,p j) : ∀ {n : Nat} {S : List Nat},allAnc l n S = true → (∀ j ∈ S,p j) → ∀ j,j < n → p j
 | 0,_,_,_,j,hj => absurd hj (by omega)
 | n + 1,S,h,hS,j,hj => by
  rw [allAnc,Bool.and_eq_true] at h;have hn : p n:=hS n (List.contains_iff_mem.1 h.1);rcases Nat.lt_succ_iff_lt_or_eq.1 hj with h1 | rfl
  ·refine allAnc_sound hdc h.2 (fun i hi => ?_) j h1
   split at hi
   ·next o ho =>
    rcases List.mem_append.1 hi with h2 | h2
    ·exact hdc _ _ ho hn _ h2
    ·exact hS _ h2
   ·exact hS _ hi
  ·exact hn
def looseB (l T : List Oper) : Bool :=
 l.all (fun o => o.guard.isNone) && decide (dstsL l).Nodup &&
 (List.range l.length).all (fun i => match l[i]? with | some o => (edgesL o).all (fun j => decide (j < i)) | none => true) &&
 (List.range T.length).all (fun i => match T[i]? with | some o => (edgesL o).all (fun j => decide (j < l.length + i)) && (i == 0 || (edgesL o).contains (l.length + i - 1)) | none => true) &&
 (match T with | o :: _ => allAnc l l.length (edgesL o) | [] => false)
def costL : List Nat → Nat → (Nat → Bool) → Nat
 | [],_,_ => 0
 | c :: cs,i,f => (if f i = true then c else 0) + costL cs (i + 1) f
theorem costL_congr {cs : List Nat} : ∀ {i : Nat} {f g : Nat → Bool},(∀ j,i ≤ j → f j = g j) → costL cs i f = costL cs i g:=by
 induction cs with
 | nil => intros; rfl
 | cons c cs ih => intro i f g h; rw [costL,costL,h i (Nat.le_refl _),ih (fun j hj => h j (by omega))]
theorem costL_set {cs : List Nat} : ∀ {i j c : Nat} {f g : Nat → Bool},i ≤ j → cs[j - i]? = some c → f j = false → g j = true → (∀ t,t ≠ j → g t = f t) → costL cs i g = costL cs i f + c:=by
 induction cs with
 | nil => intro i j c f g _ h; simp at h
 | cons d cs ih =>
  intro i j c f g hij hc hf hg hfg;rw [costL,costL];by_cases h : i = j
  ·subst h
   rw [Nat.sub_self] at hc;obtain rfl : d = c:=by simpa using hc
   rw [hf,hg,costL_congr (f:=g) (g:=f) (fun t ht => hfg t (by omega))];simp; omega
  ·rw [hfg i h,ih (i:=i + 1) (j:=j) (by omega) (by
      rw [show j - i = (j - (i + 1)) + 1 by omega] at hc
      simpa using hc) hf hg hfg]
   omega
theorem costL_le {cs : List Nat} : ∀ {i : Nat} {f : Nat → Bool},costL cs i f ≤ cs.sum:=by
 induction cs with
 | nil => intros; simp [costL]
 | cons c cs ih => intro i f; rw [costL,List.sum_cons]; have:=ih (i:=i + 1) (f:=f); split <;> omega
theorem costL_none {cs : List Nat} : ∀ {i : Nat},costL cs i (fun _ => false) = 0:=by
 induction cs with
 | nil => intros; rfl
 | cons c cs ih => intro i; rw [costL,ih]; simp
theorem costL_all {cs : List Nat} : ∀ {i : Nat} {f : Nat → Bool},(∀ j,i ≤ j → j < i + cs.length → f j = true) → costL cs i f = cs.sum:=by
 induction cs with
 | nil => intros; rfl
 | cons c cs ih => intro i f h; rw [costL,List.sum_cons,h i (Nat.le_refl _) (by simp),ih (fun j h1 h2 => h j (by omega) (by simp; omega))]; simp
def unl (n : Nat) (listed : Array Bool) : Nat:=(List.range n).countP (fun i => !listed.getD i true)
theorem getD_true_of {listed : Array Bool} {i : Nat} (h : listed.getD i true = false) : i < listed.size:=by
 rcases Nat.lt_or_ge i listed.size with q | q
 ·exact q
 ·simp [Array.getD,Nat.not_lt.2 q] at h
theorem getD_set_eq {listed : Array Bool} {i : Nat} (h : i < listed.size) (b : Bool) : (listed.setIfInBounds i true).getD i b = true:=by simp [Array.getD,h]
theorem getD_both {listed : Array Bool} {i : Nat} (h : i < listed.size) (b c : Bool) : listed.getD i b = listed.getD i c:=by simp [Array.getD,h]
theorem unl_set {n i : Nat} {listed : Array Bool} (hi : i < n) (h : listed.getD i true = false) : unl n (listed.setIfInBounds i true) + 1 ≤ unl n listed:=by
 unfold unl;have hlt:=getD_true_of h;have key : ∀ m,(List.range m).countP (fun j => !(listed.setIfInBounds i true).getD j true) + (if i < m then 1 else 0) ≤ (List.range m).countP (fun j => !listed.getD j true):=by
  intro m
  induction m with
  | zero => simp
  | succ m ih =>
   rw [List.range_succ,List.countP_append,List.countP_append,List.countP_cons,List.countP_cons,List.countP_nil,List.countP_nil];by_cases hm : i = m
   ·subst hm
    rw [getD_set_eq hlt,h];simp at ih ⊢;omega
   ·rw [getD_set_ne true hm]
    by_cases h2 : i < m
    ·have h3 : i < m + 1:=by omega
     simp only [h2,h3,if_true] at ih ⊢;omega
    ·have h3 : ¬ i < m + 1:=by omega
     simp only [h2,h3,if_false] at ih ⊢;omega
 have:=key n;rw [if_pos hi] at this;exact this
theorem wpAny_done {P : Program} {ops : Array Oper} {Q : Exit → Act → World → Prop} {listed : Array Bool} (h : ∀ j,j < ops.size → listed.getD j true = true) {a : Act} {w : World} (hq : Q .normal a w) : ∀ fuel,wpAny P .any ops Q fuel listed a w:=by
 have hr : Region.ready .any ops listed = []:=by
  cases hx : Region.ready .any ops listed with
  | nil => rfl
  | cons j js =>
   have hj : j ∈ Region.ready .any ops listed:=by rw [hx]; exact List.mem_cons_self ..
   obtain ⟨h1,o,ho,_⟩:=mem_ready.1 hj;have hlt : j < ops.size:=(Array.getElem?_eq_some_iff.1 ho).1;rw [h j hlt] at h1; cases h1
 intro fuel;cases fuel with
 | zero => exact ⟨hr,hq⟩
 | succ fuel => exact ⟨fun _ => hq,fun i hi => by rw [hr] at hi; cases hi⟩
section
variable {P : Program} {R : World → World → Prop} {G : Nat → World → Prop} {K0 : Nat} {l : List Oper} {fin : Oper} {specs : List Spec} {cs : List Nat} {a : Act} {w0 : World}
structure LInv (R : World → World → Prop) (G : Nat → World → Prop) (K0 : Nat) (l : List Oper) (tn : Nat) (specs : List Spec) (cs : List Nat) (a : Act) (w0 : World) (listed : Array Bool) (a' : Act) (w' : World) : Prop where
 sz : listed.size = l.length + tn
 r : R w0 w'
 g : G (K0 + costL cs 0 (fun i => listed.getD i false)) w'
 df : a'.defers = a.defers
 ts : a'.tmps.size = a.tmps.size
 kp : ∀ t,(dstsL l).contains t = false → a'.tmps[t]? = a.tmps[t]?
 sp : ∀ i o s,l[i]? = some o → specs[i]? = some s → listed.getD i false = true → s (slotv a' o.dst) w'
 fn : ∀ j,l.length ≤ j → j < l.length + tn → listed.getD j true = false
 dc : ∀ i o,l[i]? = some o → listed.getD i true = true → ∀ j ∈ edgesL o,listed.getD j true = true
theorem nodup_get {l : List Oper} (h : (dstsL l).Nodup) : ∀ {i j : Nat} {o o' : Oper} {d : Tmp},l[i]? = some o → l[j]? = some o' → o.dst = some d → o'.dst = some d → i = j:=by
 induction l with
 | nil => intro i j o o' d h1; simp at h1
 | cons x xs ih =>
  intro i j o o' d h1 h2 h3 h4;have hm : ∀ {k : Nat} {q : Oper},xs[k]? = some q → q.dst = some d → d ∈ dstsL xs:=fun {k q} hk hq => List.mem_filterMap.2 ⟨q,List.mem_of_getElem? hk,hq⟩
  unfold dstsL at h;rw [List.filterMap_cons] at h;cases i with
  | zero =>
   cases j with
   | zero => rfl
   | succ j =>
    obtain rfl : x = o:=by simpa using h1
    rw [h3] at h;exact absurd (hm (by simpa using h2) h4) (List.nodup_cons.1 h).1
  | succ i =>
   cases j with
   | zero =>
    obtain rfl : x = o':=by simpa using h2
    rw [h4] at h;exact absurd (hm (by simpa using h1) h3) (List.nodup_cons.1 h).1
   | succ j =>
    have hx : (dstsL xs).Nodup:=by
     split at h
     ·exact h
     ·exact (List.nodup_cons.1 h).2
    have:=ih hx (i:=i) (j:=j) (by simpa using h1) (by simpa using h2) h3 h4;omega
theorem slotv_put_same {a : Act} {d : Tmp} {v : Value} (h : d < a.tmps.size) : slotv (a.put (some d) v) (some d) = v:=by simp [slotv,Act.put,h]
theorem slotv_put_ne {a : Act} {d d' : Tmp} {v : Value} (h : d' ≠ d) : slotv (a.put (some d) v) (some d') = slotv a (some d'):=by
 simp [slotv,Act.put,Array.getD_eq_getD_getElem?,Ne.symm h]
theorem ops_left {l T : List Oper} {i : Nat} (h : i < l.length) : (l ++ T).toArray[i]? = l[i]?:=by rw [List.getElem?_toArray,List.getElem?_append_left h]
theorem ops_right {l T : List Oper} {i : Nat} : (l ++ T).toArray[l.length + i]? = T[i]?:=by rw [List.getElem?_toArray,List.getElem?_append_right (Nat.le_add_right _ _),Nat.add_sub_cancel_left]
theorem tail_seq {Q : Exit → Act → World → Prop} {l T : List Oper} (hT : ∀ i o,T[i]? = some o → (∀ j ∈ edgesL o,j < l.length + i) ∧ (i = 0 ∨ l.length + i - 1 ∈ edgesL o)) :
    ∀ (r p : Nat),p + r = T.length → ∀ fuel listed a w,r ≤ fuel → listed.size = l.length + T.length → (∀ j,j < l.length + p → listed.getD j true = true) → (∀ j,l.length + p ≤ j → j < l.length + T.length → listed.getD j true = false) → wpList P (l ++ T).toArray Q (T.drop p) a w → wpAny P .any (l ++ T).toArray Q fuel listed a w:=by
 intro r
 induction r with
 | zero =>
  intro p hp fuel listed a w _ hsz hin _ hw;rw [List.drop_of_length_le (by omega)] at hw;exact wpAny_done (fun j hj => hin j (by simp at hj; omega)) hw fuel
 | succ r ih =>
  intro p hp fuel listed a w hf hsz hin hout hw;cases fuel with
  | zero => omega
  | succ fuel =>
   have hpT : p < T.length:=by omega
   have hTp : T[p]? = some T[p]:=List.getElem?_eq_getElem hpT
   have hmem : l.length + p ∈ Region.ready .any (l ++ T).toArray listed:=mem_ready.2 ⟨hout _ (Nat.le_refl _) (by omega),T[p],by rw [ops_right,hTp],fun e he hb => by
    have:=(hT p _ hTp).1 _ (edges_mem he hb)
    rw [getD_both (by omega) false true]; exact hin _ this⟩
   refine ⟨(fun hr => by rw [hr] at hmem; cases hmem),fun i hi => ?_⟩;obtain ⟨hif,o,ho,haft⟩:=mem_ready.1 hi;have hilt : i < l.length + T.length:=by have:=getD_true_of hif; omega
   have hige : l.length + p ≤ i:=by
    rcases Nat.lt_or_ge i (l.length + p) with q | q
    ·rw [hin i q] at hif; cases hif
    ·exact q
   obtain ⟨d,rfl⟩ : ∃ d,i = l.length + d:=⟨i - l.length,by omega⟩;rw [ops_right] at ho;have hd : d = p:=by
    rcases (hT d o ho).2 with h0 | h0
    ·omega
    ·obtain ⟨e,he,hb,heq⟩:=mem_edges h0
     have h1:=haft e he hb;rw [heq] at h1;rcases Nat.lt_or_ge (l.length + d - 1) (l.length + p) with q | q
     ·omega
     ·rw [getD_both (by omega) false true,hout _ q (by omega)] at h1; cases h1
   subst hd;obtain rfl : o = T[d]:=by rw [hTp] at ho; exact (Option.some.inj ho).symm
   rw [List.drop_eq_getElem_cons hpT] at hw;unfold wpOp;rw [ops_right,hTp];simp only [wpList] at hw
   have hnext : ∀ a w,wpList P (l ++ T).toArray Q (T.drop (d + 1)) a w → wpAny P .any (l ++ T).toArray Q fuel (listed.setIfInBounds (l.length + d) true) a w:=fun a w hw => ih (d + 1) (by omega) fuel _ a w (by omega) (by simp [hsz]) (fun j hj => by
    by_cases hj2 : j = l.length + d
    ·subst hj2; exact getD_set_eq (by omega) _
    ·rw [getD_set_ne true (Ne.symm hj2)]; exact hin j (by omega)) (fun j h1 h2 => by rw [getD_set_ne true (by omega)]; exact hout j (by omega) h2) hw
   show (if Region.wanted T[d] (yielded (l ++ T).toArray a.tmps) = true then _ else _)
   split at hw
   ·next hq => rw [if_pos hq]; exact hw.imp (Oper.wp_mono hnext) id
   ·next hq => rw [if_neg hq]; exact hnext _ _ hw
theorem wp_loose_any {T : List Oper} {Q : Exit → Act → World → Prop} (hB : looseB l T = true) (hds : ∀ o ∈ l,∃ d,o.dst = some d ∧ d < a.tmps.size) (hlen : specs.length = l.length) (hlc : cs.length = l.length) (htrans : ∀ a b c,R a b → R b c → R a c)
    (hstab : ∀ s ∈ specs,∀ v w w',R w w' → s v w → s v w')
    (hsteps : looseSteps (StepOK P R G K0 (K0 + cs.sum) l specs a w0) l specs cs)
    (hend : ∀ w',R w0 w' → G (K0 + cs.sum) w' → looseAll w' (fun a' => wpList P (l ++ T).toArray Q T a' w') l specs a) :
    ∀ fuel listed a' w',LInv R G K0 l T.length specs cs a w0 listed a' w' → unl (l.length + T.length) listed ≤ fuel → wpAny P .any (l ++ T).toArray Q fuel listed a' w':=by
 simp only [looseB,Bool.and_eq_true,List.all_eq_true,decide_eq_true_eq] at hB;obtain ⟨⟨⟨⟨hg1,hnd⟩,hlex⟩,hT0⟩,hanc⟩:=hB;have hT : ∀ i o,T[i]? = some o → (∀ j ∈ edgesL o,j < l.length + i) ∧ (i = 0 ∨ l.length + i - 1 ∈ edgesL o):=fun i o ho => by
  have h1:=hT0 i (List.mem_range.2 (List.getElem?_eq_some_iff.1 ho).1);rw [ho] at h1;simp only [Bool.and_eq_true,List.all_eq_true,decide_eq_true_eq,Bool.or_eq_true,beq_iff_eq,List.contains_iff_mem] at h1;exact h1
 have hT1 : ∃ t ts,T = t :: ts:=by
  cases T with
  | nil => cases hanc
  | cons t ts => exact ⟨t,ts,rfl⟩
 have hTl : 0 < T.length:=by obtain ⟨t,ts,rfl⟩:=hT1; simp
 intro fuel
 induction fuel with
 | zero =>
  intro listed a' w' hI hu;exfalso;have : 0 < unl (l.length + T.length) listed:=by
   unfold unl;rw [List.countP_pos_iff];exact ⟨l.length,by simp; omega,by rw [hI.fn _ (Nat.le_refl _) (by omega)]; rfl⟩
  omega
 | succ fuel ih =>
  intro listed a' w' hI hu;by_cases hall : ∀ j,j < l.length → listed.getD j true = true
  ·have hg:=hI.g
   rw [costL_all (fun j _ h2 => by rw [getD_both (by rw [hI.sz]; omega) false true]; exact hall j (by omega))] at hg
   have hK:=looseAll_use l specs a hlen hI.ts hI.df hI.kp (fun j o s h1 h2 => hI.sp j o s h1 h2 (by
    have hj:=(List.getElem?_eq_some_iff.1 h1).1
    rw [getD_both (by rw [hI.sz]; omega) false true]; exact hall j hj)) (hend w' hI.r hg)
   refine tail_seq hT T.length 0 (by omega) (fuel + 1) listed a' w' ?_ hI.sz (fun j hj => hall j (by omega)) (fun j h1 h2 => hI.fn j (by omega) h2) hK;have h1 : T.length ≤ unl (l.length + T.length) listed:=by
    have key : ∀ k,k ≤ T.length → k ≤ unl (l.length + k) listed:=by
     intro k
     induction k with
     | zero => intro _; exact Nat.zero_le _
     | succ k ihk =>
      intro hk;have h2:=ihk (by omega);unfold unl at h2 ⊢;rw [show l.length + (k + 1) = (l.length + k) + 1 by omega,List.range_succ,List.countP_append,List.countP_cons,List.countP_nil,hI.fn (l.length + k) (by omega) (by omega)];simp at h2 ⊢; omega
    exact key _ (Nat.le_refl _)
   omega
  ·refine ⟨fun hr => ?_,fun i hi => ?_⟩
   ·exfalso
    -- the least one that has not come up may come up
    have hex : ∃ m,m < l.length ∧ listed.getD m true = false ∧ ∀ j,j < m → listed.getD j true = true:=by
     have : ∀ n,n < l.length → listed.getD n true = false → ∃ m,m < l.length ∧ listed.getD m true = false ∧ ∀ j,j < m → listed.getD j true = true:=by
      intro n
      induction n using Nat.strongRecOn with
      | _ n ihn =>
       intro hn hf;by_cases h : ∃ j,j < n ∧ listed.getD j true = false
       ·obtain ⟨j,hj,hjf⟩:=h
        exact ihn j hj (by omega) hjf
       ·exact ⟨n,hn,hf,fun j hj => by
           cases hq : listed.getD j true
           ·exact absurd ⟨j,hj,hq⟩ h
           ·rfl⟩
     apply Decidable.byContradiction;intro hno;exact hall fun j hj => by
      cases hq : listed.getD j true
      ·exact absurd (this j hj hq) hno
      ·rfl
    obtain ⟨m,hm,hmf,hml⟩:=hex;have hmem : m ∈ Region.ready .any (l ++ T).toArray listed:=by
     refine mem_ready.2 ⟨hmf,l[m],by rw [ops_left hm,List.getElem?_eq_getElem hm],fun e he hb => ?_⟩;have h1:=hlex m (List.mem_range.2 hm);rw [List.getElem?_eq_getElem hm] at h1;have h3 : e.on < m:=by simpa using (List.all_eq_true.1 h1) _ (edges_mem he hb)
     rw [getD_both (by rw [hI.sz]; omega) false true]; exact hml _ h3
    rw [hr] at hmem;cases hmem
   ·obtain ⟨hif,o,ho,haft⟩:=mem_ready.1 hi
    have hilt : i < l.length:=by
     rcases Nat.lt_or_ge i l.length with q | q
     ·exact q
     ·exfalso
      have hi2 : i < l.length + T.length:=by have:=getD_true_of hif; rw [hI.sz] at this; exact this
      obtain ⟨d,rfl⟩ : ∃ d,i = l.length + d:=⟨i - l.length,by omega⟩;rw [ops_right] at ho;rcases (hT d o ho).2 with rfl | h0
      ·obtain ⟨t,ts,rfl⟩:=hT1
       obtain rfl : t = o:=by simpa using ho
       refine hall (fun j hj => ?_)
       have:=allAnc_sound (p:=fun j => listed.getD j true = true) hI.dc hanc (fun j hj => by
        obtain ⟨e,he,hb,rfl⟩:=mem_edges hj;have h1:=haft e he hb;have h2:=(hT 0 t rfl).1 _ hj
        rwa [getD_both (by rw [hI.sz]; simp at h2 ⊢; omega) false true] at h1) j hj
       exact this
      ·obtain ⟨e,he,hb,heq⟩:=mem_edges h0
       have h1:=haft e he hb;rw [heq] at h1;have hd0 : 0 < d:=by
        rcases Nat.eq_zero_or_pos d with q0 | q0
        ·subst q0
         have:=(hT 0 o ho).1 _ h0;rcases Nat.eq_zero_or_pos l.length with z | z
         ·exact absurd (fun j hj => by omega) hall
         ·exfalso
          obtain ⟨t,ts,rfl⟩:=hT1;obtain rfl : t = o:=by simpa using ho
          refine hall (fun j hj => ?_)
          exact allAnc_sound (p:=fun j => listed.getD j true = true) hI.dc hanc (fun j hj => by
           obtain ⟨e,he,hb,rfl⟩:=mem_edges hj;have h1:=haft e he hb;have h2:=(hT 0 t rfl).1 _ hj
           rwa [getD_both (by rw [hI.sz]; simp at h2 ⊢; omega) false true] at h1) j hj
        ·exact q0
       rw [getD_both (by rw [hI.sz]; omega) false true,hI.fn _ (by omega) (by omega)] at h1;cases h1
    rw [ops_left hilt] at ho;have hlo:=ho;obtain ⟨s,hs⟩ : ∃ s,specs[i]? = some s:=⟨_,List.getElem?_eq_getElem (by omega)⟩;obtain ⟨c,hc⟩ : ∃ c,cs[i]? = some c:=⟨_,List.getElem?_eq_getElem (by omega)⟩;have hst:=looseSteps_at hsteps hlo hs hc;have hgn : o.guard = none:=by have:=hg1 o (List.mem_of_getElem? hlo); simpa using this
    have hset:=costL_set (cs:=cs) (i:=0) (j:=i) (c:=c) (f:=fun t => listed.getD t false) (g:=fun t => (listed.setIfInBounds i true).getD t false) (Nat.zero_le _) (by simpa using hc)
     (by show listed.getD i false = false; rw [getD_both (getD_true_of hif) false true]; exact hif) (getD_set_eq (getD_true_of hif) _) (fun t ht => getD_set_ne false (Ne.symm ht))
    have hle : K0 + costL cs 0 (fun t => listed.getD t false) + c ≤ K0 + cs.sum:=by
     have:=costL_le (cs:=cs) (i:=0) (f:=fun t => (listed.setIfInBounds i true).getD t false);rw [hset] at this; omega
    have hrun:=hst _ a' w' (Nat.le_add_right _ _) hle hI.r hI.g (fun t ht => by
     have:=hI.kp t ht;simp only [Array.getD_eq_getD_getElem?,this]) (depsL_of fun e he hb => by
     unfold depHold
     split
     ·next o' s' h1 h2 => exact hI.sp _ _ _ h1 h2 (haft e (by simpa using he) hb)
     ·trivial)
    unfold wpOp;rw [ops_left hilt,ho];have hw : Region.wanted o (yielded (l ++ T).toArray a'.tmps) = true:=by simp [Region.wanted,hgn]
    simp only [hw,if_true];refine .inl (wp_of_loose hrun fun v w'' hR hG hsv => ?_);refine ih _ _ _ ⟨by simp [hI.sz],htrans _ _ _ hI.r hR,?_,by rw [defers_put]; exact hI.df,by rw [size_put]; exact hI.ts,fun t ht => ?_,fun j o' s' h1 h2 h3 => ?_,fun j h1 h2 => ?_,fun j o' h1 h2 q hq => ?_⟩ (by have:=unl_set (n:=l.length + T.length) (by omega) hif; omega)
    ·have hset' : costL cs 0 (fun t => (listed.setIfInBounds i true).getD t false) = costL cs 0 (fun t => listed.getD t false) + c:=hset
     rw [hset',← Nat.add_assoc]; exact hG
    ·rw [tmps_put,if_neg]
     ·exact hI.kp t ht
     ·rintro ⟨hd,_⟩
      have : t ∈ dstsL l:=List.mem_filterMap.2 ⟨o,List.mem_of_getElem? hlo,hd⟩;rw [List.contains_iff_mem.2 this] at ht; cases ht
    ·by_cases hji : j = i
     ·subst hji
      obtain rfl : o' = o:=by rw [h1] at hlo; exact Option.some.inj hlo
      obtain rfl : s' = s:=by rw [h2] at hs; exact Option.some.inj hs
      obtain ⟨d,hd,hdl⟩:=hds o' (List.mem_of_getElem? h1);rw [hd,slotv_put_same (by rw [hI.ts]; exact hdl)];exact hsv
     ·obtain ⟨d,hd,_⟩:=hds o' (List.mem_of_getElem? h1)
      obtain ⟨d2,hd2,_⟩:=hds o (List.mem_of_getElem? hlo);have hne : d ≠ d2:=fun e => hji (nodup_get hnd h1 hlo hd (by rw [hd2,e]))
      rw [getD_set_ne false (Ne.symm hji)] at h3;have h4:=hI.sp j o' s' h1 h2 h3;rw [hd] at h4 ⊢;rw [hd2,slotv_put_ne hne];exact hstab s' (List.mem_of_getElem? h2) _ _ _ hR h4
    ·rw [getD_set_ne true (by omega)]; exact hI.fn j h1 h2
    ·have hql : q < l.length:=by
        have hj:=(List.getElem?_eq_some_iff.1 h1).1;have h5:=hlex j (List.mem_range.2 hj);rw [h1] at h5;have h6 : q < j:=by simpa using (List.all_eq_true.1 h5) _ hq
        omega
     by_cases hqi : q = i
     ·subst hqi; exact getD_set_eq (getD_true_of hif) _
     ·rw [getD_set_ne true (Ne.symm hqi)]
      by_cases hji : j = i
      ·subst hji
       obtain rfl : o' = o:=by rw [h1] at hlo; exact Option.some.inj hlo
       obtain ⟨e,he,hb,rfl⟩:=mem_edges hq;have:=haft e he hb
       rwa [getD_both (by rw [hI.sz]; omega) false true] at this
      ·rw [getD_set_ne true (Ne.symm hji)] at h2
       exact hI.dc j o' h1 h2 q hq
end
theorem looseAll_cons {w' : World} {K : Act → Prop} {o : Oper} {os : List Oper} {s : Spec} {ss : List Spec} {a : Act} (h : ∀ v,s v w' → looseAll w' K os ss (a.put o.dst v)) : looseAll w' K (o :: os) (s :: ss) a:=h
theorem looseAll_nil {w' : World} {K : Act → Prop} {ss : List Spec} {a : Act} (h : K a) : looseAll w' K [] ss a:=by cases ss <;> exact h
theorem looseSteps_cons {S : Oper → Spec → Nat → Prop} {o : Oper} {os : List Oper} {s : Spec} {ss : List Spec} {c : Nat} {cs : List Nat} (h : S o s c) (h2 : looseSteps S os ss cs) : looseSteps S (o :: os) (s :: ss) (c :: cs):=⟨h,h2⟩
theorem looseSteps_nil {S : Oper → Spec → Nat → Prop} : looseSteps S [] [] []:=trivial
theorem wp_region_loose {P : Program} {R : World → World → Prop} {G : Nat → World → Prop} (n K0 : Nat) {L : List Oper} (specs : List Spec) (cs : List Nat) {id : Nat} {Q : Exit → Act → World → Prop} {a : Act} {w : World}
    (hm : P.follows .mixedOrders = true) (hB : looseB (L.take n) (L.drop n) = true) (hds : ((L.take n).all fun o => match o.dst with | some d => decide (d < a.tmps.size) | none => false) = true)
    (hlen : specs.length = (L.take n).length) (hlc : cs.length = (L.take n).length) (hrefl : ∀ w,R w w) (htrans : ∀ a b c,R a b → R b c → R a c) (hstab : ∀ s ∈ specs,∀ v w w',R w w' → s v w → s v w')
    (hG : G K0 w.drew) (hsteps : looseSteps (StepOK P R G K0 (K0 + cs.sum) (L.take n) specs a w.drew) (L.take n) specs cs)
    (hend : ∀ w',R w.drew w' → G (K0 + cs.sum) w' → looseAll w' (fun a' => wpList P L.toArray Q (L.drop n) a' w') (L.take n) specs a) : (Code.region id L.toArray true).wp P Q a w:=by
 have hL : L = L.take n ++ L.drop n:=(List.take_append_drop n L).symm;have hend' : ∀ w',R w.drew w' → G (K0 + cs.sum) w' → looseAll w' (fun a' => wpList P (L.take n ++ L.drop n).toArray Q (L.drop n) a' w') (L.take n) specs a:=by rw [← hL]; exact hend
 rw [hL];refine wp_region_any hm ?_;have hsz : (L.take n ++ L.drop n).toArray.size = (L.take n).length + (L.drop n).length:=by rw [List.size_toArray,List.length_append]
 rw [hsz];have hds' : ∀ o ∈ L.take n,∃ d,o.dst = some d ∧ d < a.tmps.size:=fun o ho => by
  have:=List.all_eq_true.1 hds o ho;cases hd : o.dst with
  | none => rw [hd] at this; cases this
  | some d => rw [hd] at this; exact ⟨d,rfl,by simpa using this⟩
 have hrep : ∀ j,j < (L.take n).length + (L.drop n).length → (Array.replicate ((L.take n).length + (L.drop n).length) false).getD j true = false:=fun j hj => by
  rw [Array.getD_eq_getD_getElem?,Array.getElem?_replicate,if_pos hj]; rfl
 refine wp_loose_any hB hds' hlen hlc htrans hstab hsteps hend' _ _ a _ ⟨Array.size_replicate,hrefl _,?_,rfl,rfl,fun _ _ => rfl,fun i o s h1 _ h => ?_,fun j _ h2 => hrep j h2,fun i o h1 h2 => ?_⟩ ?_
 ·have : costL cs 0 (fun i => (Array.replicate ((L.take n).length + (L.drop n).length) false).getD i false) = 0:=by
     rw [costL_congr (g:=fun _ => false) (fun j _ => by
      rw [Array.getD_eq_getD_getElem?,Array.getElem?_replicate]; split <;> rfl),costL_none]
  rw [this]; exact hG
 ·rw [Array.getD_eq_getD_getElem?,Array.getElem?_replicate] at h
  split at h <;> cases h
 ·have:=hrep i (by have:=(List.getElem?_eq_some_iff.1 h1).1; omega)
  rw [this] at h2; cases h2
 ·exact Nat.le_trans List.countP_le_length (by simp)
end Go.Proofs.YtfnmlffpnmmcdaaGreatDoor
