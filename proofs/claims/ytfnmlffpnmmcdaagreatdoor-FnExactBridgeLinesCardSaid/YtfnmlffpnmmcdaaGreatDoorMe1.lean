/- Parts of the proof, merged: BlsPlain Bridge MB StrS BlsA Late. -/
import Derived.Test.YtfnmlffpnmmcdaaGreatDoorMc10
import Derived.Test.YtfnmlffpnmmcdaaGreatDoorMc3
import Derived.Test.YtfnmlffpnmmcdaaGreatDoorMc4
import Derived.Test.YtfnmlffpnmmcdaaGreatDoorMc6
import Derived.Test.YtfnmlffpnmmcdaaGreatDoorMc5
import Derived.Deep.RegionHeld3
import Derived.Deep.Cut
namespace Go.Proofs.YtfnmlffpnmmcdaaGreatDoor
set_option maxRecDepth 100000
open Go.RowKit
def blsTo (b : ElBr) (ls : List ByteArray) : Nat → ElBr × List ByteArray
 | 0 => (b,[])
 | k + 1 => ((blOf (blsTo b ls k).1 (gt ls k)).1,(blsTo b ls k).2 ++ [(blOf (blsTo b ls k).1 (gt ls k)).2])
theorem blsTo_valid {b : ElBr} (h : brvB b = true) (ls : List ByteArray) : ∀ k,brvB (blsTo b ls k).1 = true
 | 0 => h
 | k + 1 => blOf_valid (blsTo_valid h ls k)
theorem blsTo_len (b : ElBr) (ls : List ByteArray) : ∀ k,(blsTo b ls k).2.length = k
 | 0 => rfl
 | k + 1 => by rw [blsTo,List.length_append,blsTo_len b ls k]; rfl
theorem blsTo_step {b x : ElBr} {ls as_ : List ByteArray} {k : Nat} (h : (x,as_) = blsTo b ls k) : ((blOf x (gt ls k)).1,as_ ++ [(blOf x (gt ls k)).2]) = blsTo b ls (k + 1):=by
 rw [blsTo,← h]
def zBr0 : ElBr:=(({ data:=#[] },{ data:=#[] }),[],[],0)
def blsR (b : ElBr) (ls : List ByteArray) : ElBr × List ByteArray:=if brvB b = true ∧ ls.length ≤ 30 then blsTo b ls ls.length else (zBr0,[])
theorem blsR_valid {b : ElBr} {ls : List ByteArray} : fdB (blsR b ls).1.2.1 = true ∧ fvB (blsR b ls).1.2.2.1 = true ∧ (blsR b ls).2.length ≤ 30:=by
 unfold blsR
 split
 ·next h => exact ⟨(brv_of (blsTo_valid h.1 ls _)).2.1,(brv_of (blsTo_valid h.1 ls _)).2.2.1,by rw [blsTo_len]; exact h.2⟩
 ·exact ⟨fd_mk (by simp [zBr0]) (fun x hx => by cases hx) List.Pairwise.nil,fv_nil,by simp⟩
def OutBls (base : Nat) (r : ElBr × List ByteArray) (w : World) (e : Ending) (w' : World) : Prop:=∃ (I' : Option Addr) (ci' : Nat) (F' : Option Addr) (cf' : Nat) (R : Option Addr) (cR : Nat),e = .returned (.tuple #[.agg #[.string r.1.1.1,.string r.1.1.2,.slice I' r.1.2.1.length ci',.slice F' r.1.2.2.1.length cf',.int .i64 r.1.2.2.2],.slice R r.2.length cR]) ∧ OwnE 4 encItem 69 w' base I' ci' r.1.2.1 ∧ OwnE 2 encHandle 29 w' base F' cf' r.1.2.2.1 ∧ OwnE 1 encStr 9 w' base R cR r.2 ∧ Below w.heap.size w w' 
end Go.Proofs.YtfnmlffpnmmcdaaGreatDoor
namespace Go.Proofs.YtfnmlffpnmmcdaaGreatDoor
set_option maxRecDepth 100000
open Go.RowKit
theorem set_grown (w : World) (b o : Nat) (u : Value) : w.grownBy (w.setCell ⟨b,o,none⟩ u) (some b) :=
 ⟨rfl,rfl,rfl,by simp,fun i _ hne => Below.heap_setCell w ⟨b,o,none⟩ u i (fun e => hne (by rw [e]))⟩
theorem own_set {w : World} {base e sz n cap : Nat} {A : Option Addr} {f : Nat → Value} (h : Own w base e sz A n cap f) (b o : Nat) (u : Value) (hb : b < base) : Own (w.setCell ⟨b,o,none⟩ u) base e sz A n cap f :=
 Own.kept h (set_grown w b o u) (by
  cases hA : blk A with
  | none => exact .inl rfl
  | some c => exact .inr (fun e => by injection e with e; have:=(Own.lt h hA).1; omega))
theorem bcell {W w1 : World} (hb : Below W.heap.size W w1) : (∀ b o,b < W.heap.size → w1.cell? ⟨b,o,none⟩ = W.cell? ⟨b,o,none⟩) ∧ (∀ b o,b < W.heap.size → w1.frozen? ⟨b,o,none⟩ = W.frozen? ⟨b,o,none⟩) :=
 ⟨fun b o h => hb.cell (p:=⟨b,o,none⟩) h,fun b o h => hb.frozen (p:=⟨b,o,none⟩) h⟩
def byBridge (who : ElHandle) (is : List ElItem) (fs : List ElHandle) : Nat:=byHandle who + totItem is + totHandle fs
set_option maxHeartbeats 800000 in
theorem szBridge_any (who : ElHandle) (I : Option Addr) (ci : Nat) (is : List ElItem) (F : Option Addr) (cf : Nat) (fs : List ElHandle) (nx : Int) (left : Int) (w : World) (B : Nat) (hI : RdE 4 encItem w B I is) (hF : RdE 2 encHandle w B F fs) (hB : B ≤ w.heap.size) (hl : is.length ≤ 9223372036854775807) (hlf : fs.length ≤ 9223372036854775807) (hiz : ∀ k,k < is.length → (gt is k).1.size ≤ maxLen ∧ (gt is k).2.1.size ≤ maxLen ∧ (gt is k).2.2.1.size ≤ maxLen) (hfz : ∀ k,k < fs.length → (gt fs k).1.size ≤ maxLen ∧ (gt fs k).2.size ≤ maxLen) (hw0 : who.1.size ≤ maxLen) (hw1 : who.2.size ≤ maxLen) (h0 : 0 ≤ left) (h1 : left ≤ 1048576) :
    Calls Tryz.prog 7 #[.agg #[.string who.1,.string who.2,.slice I is.length ci,.slice F fs.length cf,.int .i64 nx],.int .i64 left] w fun e w' => e = .returned (.int .i64 (szL left (byBridge who is fs))) ∧ Below w.heap.size w w':=by
 have HIZ:=Lib.hid hiz
 have HFZ:=Lib.hid hfz
 clear hiz hfz
 have hbA : Below w.heap.size w (w.alloc (.cells #[Value.string who.1,Value.string who.2,Value.slice I is.length ci,Value.slice F fs.length cf,Value.int .i64 nx] 27)):=(Below.refl _ _).alloc (Nat.le_refl _) _
 have hzA : w.heap.size < (w.alloc (.cells #[Value.string who.1,Value.string who.2,Value.slice I is.length ci,Value.slice F fs.length cf,Value.int .i64 nx] 27)).heap.size:=by simp
 have q0 : (w.alloc (.cells #[Value.string who.1,Value.string who.2,Value.slice I is.length ci,Value.slice F fs.length cf,Value.int .i64 nx] 27)).cell? ⟨w.heap.size,0,none⟩ = some (Value.string who.1):=by rw [World.cell?_alloc_at _ _ _ _ rfl]; rfl
 have q1 : (w.alloc (.cells #[Value.string who.1,Value.string who.2,Value.slice I is.length ci,Value.slice F fs.length cf,Value.int .i64 nx] 27)).cell? ⟨w.heap.size,1,none⟩ = some (Value.string who.2):=by rw [World.cell?_alloc_at _ _ _ _ rfl]; rfl
 have q2 : (w.alloc (.cells #[Value.string who.1,Value.string who.2,Value.slice I is.length ci,Value.slice F fs.length cf,Value.int .i64 nx] 27)).cell? ⟨w.heap.size,2,none⟩ = some (Value.slice I is.length ci):=by rw [World.cell?_alloc_at _ _ _ _ rfl]; rfl
 have q3 : (w.alloc (.cells #[Value.string who.1,Value.string who.2,Value.slice I is.length ci,Value.slice F fs.length cf,Value.int .i64 nx] 27)).cell? ⟨w.heap.size,3,none⟩ = some (Value.slice F fs.length cf):=by rw [World.cell?_alloc_at _ _ _ _ rfl]; rfl
 have q4 : (w.alloc (.cells #[Value.string who.1,Value.string who.2,Value.slice I is.length ci,Value.slice F fs.length cf,Value.int .i64 nx] 27)).cell? ⟨w.heap.size,4,none⟩ = some (Value.int .i64 nx):=by rw [World.cell?_alloc_at _ _ _ _ rfl]; rfl
 have hcall:=fun W => szHandle_any who.1 who.2 left W h0 h1 hw0 hw1
 rw [show who.1.size + who.2.size = byHandle who from rfl] at hcall
 by_cases z0 : (byHandle who : Int) ≤ left
 ·rw [szL_yes z0] at hcall
  have HC:=Lib.hid hcall
  clear hcall
  have hcall:=fun W h hB => szItemS_any I ci B is (left - (byHandle who : Int)) W h hB hl HIZ.out (by omega) (by omega)
  by_cases z1 : (totItem is : Int) ≤ left - (byHandle who : Int)
  ·rw [szL_yes z1] at hcall
   have HC2:=Lib.hid hcall
   clear hcall
   have hcall:=fun W h hB => szHandleS_any F cf B fs (left - (byHandle who : Int) - (totItem is : Int)) W h hB hlf HFZ.out (by omega) (by omega)
   by_cases z2 : (totHandle fs : Int) ≤ left - (byHandle who : Int) - (totItem is : Int)
   ·rw [szL_yes z2] at hcall
    have HC3:=Lib.hid hcall
    clear hcall
    have HQ:=Lib.hid (show szL left (byBridge who is fs) = left - (byHandle who : Int) - (totItem is : Int) - (totHandle fs : Int) by rw [szL_yes (by unfold byBridge; omega)]; unfold byBridge; omega)
    go_enter Tryz.func7,Tryz.ntmps7
    go_wp2_with fail
    generalize (w.alloc (.cells #[Value.string who.1,Value.string who.2,Value.slice I is.length ci,Value.slice F fs.length cf,Value.int .i64 nx] 27)) = wA at *
    refine (HC.out wA).mono ?_
    rintro e w1 ⟨rfl,b1⟩
    have c1:=hbA.trans (b1.mono (by omega))
    have r0:=(b1.cell (p:=⟨w.heap.size,0,none⟩) (by show w.heap.size < _; omega)).trans q0
    have r1:=(b1.cell (p:=⟨w.heap.size,1,none⟩) (by show w.heap.size < _; omega)).trans q1
    have r2:=(b1.cell (p:=⟨w.heap.size,2,none⟩) (by show w.heap.size < _; omega)).trans q2
    have r3:=(b1.cell (p:=⟨w.heap.size,3,none⟩) (by show w.heap.size < _; omega)).trans q3
    have r4:=(b1.cell (p:=⟨w.heap.size,4,none⟩) (by show w.heap.size < _; omega)).trans q4
    have hz1:=b1.size
    go_wp2_with fail
    refine (HC2.out w1 (hI.below (c1.mono hB)) (Nat.le_trans hB c1.size)).mono ?_
    rintro e w2 ⟨rfl,b2⟩
    have c2:=c1.trans (b2.mono c1.size)
    have s0:=(b2.cell (p:=⟨w.heap.size,0,none⟩) (by show w.heap.size < _; omega)).trans r0
    have s1:=(b2.cell (p:=⟨w.heap.size,1,none⟩) (by show w.heap.size < _; omega)).trans r1
    have s2:=(b2.cell (p:=⟨w.heap.size,2,none⟩) (by show w.heap.size < _; omega)).trans r2
    have s3:=(b2.cell (p:=⟨w.heap.size,3,none⟩) (by show w.heap.size < _; omega)).trans r3
    have s4:=(b2.cell (p:=⟨w.heap.size,4,none⟩) (by show w.heap.size < _; omega)).trans r4
    go_wp2_with fail
    refine (HC3.out w2 (hF.below (c2.mono hB)) (Nat.le_trans hB c2.size)).mono ?_
    rintro e w3 ⟨rfl,b3⟩
    go_wp2_with fail
    go_ret
    exact ⟨ret_int HQ.out.symm,c2.trans (b3.mono c2.size)⟩
   ·rw [szL_no (by omega)] at hcall
    have HC3:=Lib.hid hcall
    clear hcall
    have HQ:=Lib.hid (show szL left (byBridge who is fs) = -1 from szL_no (by unfold byBridge; omega))
    go_enter Tryz.func7,Tryz.ntmps7
    go_wp2_with fail
    generalize (w.alloc (.cells #[Value.string who.1,Value.string who.2,Value.slice I is.length ci,Value.slice F fs.length cf,Value.int .i64 nx] 27)) = wA at *
    refine (HC.out wA).mono ?_
    rintro e w1 ⟨rfl,b1⟩
    have c1:=hbA.trans (b1.mono (by omega))
    have r0:=(b1.cell (p:=⟨w.heap.size,0,none⟩) (by show w.heap.size < _; omega)).trans q0
    have r1:=(b1.cell (p:=⟨w.heap.size,1,none⟩) (by show w.heap.size < _; omega)).trans q1
    have r2:=(b1.cell (p:=⟨w.heap.size,2,none⟩) (by show w.heap.size < _; omega)).trans q2
    have r3:=(b1.cell (p:=⟨w.heap.size,3,none⟩) (by show w.heap.size < _; omega)).trans q3
    have r4:=(b1.cell (p:=⟨w.heap.size,4,none⟩) (by show w.heap.size < _; omega)).trans q4
    have hz1:=b1.size
    go_wp2_with fail
    refine (HC2.out w1 (hI.below (c1.mono hB)) (Nat.le_trans hB c1.size)).mono ?_
    rintro e w2 ⟨rfl,b2⟩
    have c2:=c1.trans (b2.mono c1.size)
    have s0:=(b2.cell (p:=⟨w.heap.size,0,none⟩) (by show w.heap.size < _; omega)).trans r0
    have s1:=(b2.cell (p:=⟨w.heap.size,1,none⟩) (by show w.heap.size < _; omega)).trans r1
    have s2:=(b2.cell (p:=⟨w.heap.size,2,none⟩) (by show w.heap.size < _; omega)).trans r2
    have s3:=(b2.cell (p:=⟨w.heap.size,3,none⟩) (by show w.heap.size < _; omega)).trans r3
    have s4:=(b2.cell (p:=⟨w.heap.size,4,none⟩) (by show w.heap.size < _; omega)).trans r4
    go_wp2_with fail
    refine (HC3.out w2 (hF.below (c2.mono hB)) (Nat.le_trans hB c2.size)).mono ?_
    rintro e w3 ⟨rfl,b3⟩
    go_wp2_with fail
    go_ret
    exact ⟨ret_int HQ.out.symm,c2.trans (b3.mono c2.size)⟩
  ·rw [szL_no (by omega)] at hcall
   have HC2:=Lib.hid hcall
   clear hcall
   have HQ:=Lib.hid (show szL left (byBridge who is fs) = -1 from szL_no (by unfold byBridge; omega))
   go_enter Tryz.func7,Tryz.ntmps7
   go_wp2_with fail
   generalize (w.alloc (.cells #[Value.string who.1,Value.string who.2,Value.slice I is.length ci,Value.slice F fs.length cf,Value.int .i64 nx] 27)) = wA at *
   refine (HC.out wA).mono ?_
   rintro e w1 ⟨rfl,b1⟩
   have c1:=hbA.trans (b1.mono (by omega))
   have r0:=(b1.cell (p:=⟨w.heap.size,0,none⟩) (by show w.heap.size < _; omega)).trans q0
   have r1:=(b1.cell (p:=⟨w.heap.size,1,none⟩) (by show w.heap.size < _; omega)).trans q1
   have r2:=(b1.cell (p:=⟨w.heap.size,2,none⟩) (by show w.heap.size < _; omega)).trans q2
   have r3:=(b1.cell (p:=⟨w.heap.size,3,none⟩) (by show w.heap.size < _; omega)).trans q3
   have r4:=(b1.cell (p:=⟨w.heap.size,4,none⟩) (by show w.heap.size < _; omega)).trans q4
   have hz1:=b1.size
   go_wp2_with fail
   refine (HC2.out w1 (hI.below (c1.mono hB)) (Nat.le_trans hB c1.size)).mono ?_
   rintro e w2 ⟨rfl,b2⟩
   have c2:=c1.trans (b2.mono c1.size)
   have s0:=(b2.cell (p:=⟨w.heap.size,0,none⟩) (by show w.heap.size < _; omega)).trans r0
   have s1:=(b2.cell (p:=⟨w.heap.size,1,none⟩) (by show w.heap.size < _; omega)).trans r1
   have s2:=(b2.cell (p:=⟨w.heap.size,2,none⟩) (by show w.heap.size < _; omega)).trans r2
   have s3:=(b2.cell (p:=⟨w.heap.size,3,none⟩) (by show w.heap.size < _; omega)).trans r3
   have s4:=(b2.cell (p:=⟨w.heap.size,4,none⟩) (by show w.heap.size < _; omega)).trans r4
   go_wp2_with fail
   go_ret
   exact ⟨ret_int HQ.out.symm,c2⟩
 ·rw [szL_no (by omega)] at hcall
  have HC:=Lib.hid hcall
  clear hcall
  have HQ:=Lib.hid (show szL left (byBridge who is fs) = -1 from szL_no (by unfold byBridge; omega))
  go_enter Tryz.func7,Tryz.ntmps7
  go_wp2_with fail
  generalize (w.alloc (.cells #[Value.string who.1,Value.string who.2,Value.slice I is.length ci,Value.slice F fs.length cf,Value.int .i64 nx] 27)) = wA at *
  refine (HC.out wA).mono ?_
  rintro e w1 ⟨rfl,b1⟩
  have c1:=hbA.trans (b1.mono (by omega))
  have r0:=(b1.cell (p:=⟨w.heap.size,0,none⟩) (by show w.heap.size < _; omega)).trans q0
  have r1:=(b1.cell (p:=⟨w.heap.size,1,none⟩) (by show w.heap.size < _; omega)).trans q1
  have r2:=(b1.cell (p:=⟨w.heap.size,2,none⟩) (by show w.heap.size < _; omega)).trans q2
  have r3:=(b1.cell (p:=⟨w.heap.size,3,none⟩) (by show w.heap.size < _; omega)).trans q3
  have r4:=(b1.cell (p:=⟨w.heap.size,4,none⟩) (by show w.heap.size < _; omega)).trans q4
  have hz1:=b1.size
  go_wp2_with fail
  go_ret
  exact ⟨ret_int HQ.out.symm,c1⟩
def zBr : Nat → Value
 | 0 => Value.string { data:=#[] }
 | 1 => Value.string { data:=#[] }
 | 2 => Value.slice none 0 0
 | 3 => Value.slice none 0 0
 | _ => Value.int .i64 0
def MadeBr (who : ElHandle) (is : List ElItem) (fs : List ElHandle) (nx : Int) (w : World) (e : Ending) (w' : World) : Prop:=∃ (I' : Option Addr) (ci' : Nat) (F' : Option Addr) (cf' m : Nat),e = .returned (.agg #[.string who.1,.string who.2,.slice I' is.length ci',.slice F' fs.length cf',.int .i64 nx]) ∧ OwnE 4 encItem 69 w' w.heap.size I' ci' is ∧ (∀ b,blk I' = some b → b < m) ∧ w.heap.size ≤ m ∧ OwnE 2 encHandle 29 w' m F' cf' fs ∧ Below w.heap.size w w'
set_option maxHeartbeats 1600000 in
theorem toBridge_any (who : ElHandle) (I : Option Addr) (ci : Nat) (is : List ElItem) (F : Option Addr) (cf : Nat) (fs : List ElHandle) (nx : Int) (w : World) (B : Nat) (hI : RdE 4 encItem w B I is) (hF : RdE 2 encHandle w B F fs) (hB : B ≤ w.heap.size) (hl : is.length ≤ 1048576) (hlf : fs.length ≤ 1048576) :
    Calls Tryz.prog 9 #[.agg #[.string who.1,.string who.2,.slice I is.length ci,.slice F fs.length cf,.int .i64 nx]] w (MadeBr who is fs nx w):=by
 have hbA : Below w.heap.size w (((w.alloc (.cells #[Value.string who.1,Value.string who.2,Value.slice I is.length ci,Value.slice F fs.length cf,Value.int .i64 nx] 27)).alloc (.cells #[.string { data:=#[] },.string { data:=#[] },.slice none 0 0,.slice none 0 0,.int .i64 0] 33)).alloc (.cells #[.string { data:=#[] },.string { data:=#[] },.slice none 0 0,.slice none 0 0,.int .i64 0] 33)):=(((Below.refl _ _).alloc (Nat.le_refl _) _).alloc (by simp) _).alloc (by simp; omega) _
 have hzA : w.heap.size + 2 < (((w.alloc (.cells #[Value.string who.1,Value.string who.2,Value.slice I is.length ci,Value.slice F fs.length cf,Value.int .i64 nx] 27)).alloc (.cells #[.string { data:=#[] },.string { data:=#[] },.slice none 0 0,.slice none 0 0,.int .i64 0] 33)).alloc (.cells #[.string { data:=#[] },.string { data:=#[] },.slice none 0 0,.slice none 0 0,.int .i64 0] 33)).heap.size:=by simp
 have oR : Own ((w.alloc (.cells #[Value.string who.1,Value.string who.2,Value.slice I is.length ci,Value.slice F fs.length cf,Value.int .i64 nx] 27)).alloc (.cells #[.string { data:=#[] },.string { data:=#[] },.slice none 0 0,.slice none 0 0,.int .i64 0] 33)) (w.heap.size + 1) 33 5 (some ⟨w.heap.size + 1,0,none⟩) 1 1 zBr:=by
  have:=Own.lit (w.alloc (.cells #[Value.string who.1,Value.string who.2,Value.slice I is.length ci,Value.slice F fs.length cf,Value.int .i64 nx] 27)) 33 5 1 #[.string { data:=#[] },.string { data:=#[] },.slice none 0 0,.slice none 0 0,.int .i64 0] zBr (by simp only [maxLen]; omega) rfl
  rw [show ((w.alloc (.cells #[Value.string who.1,Value.string who.2,Value.slice I is.length ci,Value.slice F fs.length cf,Value.int .i64 nx] 27))).heap.size = w.heap.size + 1 by simp] at this
  exact this
 have oR:=Own.below oR ((Below.refl _ _).alloc (Nat.le_refl _) (.cells #[.string { data:=#[] },.string { data:=#[] },.slice none 0 0,.slice none 0 0,.int .i64 0] 33))
 go_enter Tryz.func9,Tryz.ntmps9
 go_wp2_with fail
 refine (toHandle_any who.1 who.2 _).mono ?_
 rintro e w1 ⟨rfl,b1⟩
 obtain ⟨hc1,hf1⟩:=bcell b1
 have hz1 : w.heap.size + 2 < w1.heap.size:=by have:=b1.size; omega
 have y1a : w.heap.size < w1.heap.size:=by omega
 have y1b : w.heap.size + 1 < w1.heap.size:=by omega
 have y1c : w.heap.size + 1 + 1 < w1.heap.size:=by omega
 have k1:=hbA.trans (b1.mono (by omega))
 have oR1:=Own.below oR b1
 clear b1 hzA hbA oR
 go_wp2_with fail
 refine (toItemS_any I ci B is _ (hI.below (Below.mono (B:=w.heap.size) (by repeat (first | assumption | exact Below.refl _ _ | refine Below.setCell ?_ (by first | omega | (simp; done) | (simp; omega)) _)) hB)) (Nat.le_trans hB (Below.size (B:=w.heap.size) (by repeat (first | assumption | exact Below.refl _ _ | refine Below.setCell ?_ (by first | omega | (simp; done) | (simp; omega)) _)))) hl).mono ?_
 rintro e w2 ⟨I',rfl,o2,b2⟩
 obtain ⟨hc2,hf2⟩:=bcell b2
 have k2 : Below w.heap.size w w2:=Below.trans (B:=w.heap.size) (by repeat (first | assumption | exact Below.refl _ _ | refine Below.setCell ?_ (by first | omega | (simp; done) | (simp; omega)) _)) (b2.mono (by have:=k1.size; simp; omega))
 have hz2 : w1.heap.size ≤ w2.heap.size:=by have:=b2.size; simpa using this
 have y2a : w.heap.size < w2.heap.size:=by omega
 have y2b : w.heap.size + 1 < w2.heap.size:=by omega
 have y2c : w.heap.size + 1 + 1 < w2.heap.size:=by omega
 have o2':=Own.more (base':=w1.heap.size) o2 (by simp)
 have oR2 : Own w2 (w.heap.size + 1) 33 5 (some ⟨w.heap.size + 1,0,none⟩) 1 1 zBr:=Own.below (Own.kept (Own.kept oR1 (set_grown _ (w.heap.size + 1 + 1) 0 _) (.inr (by simp [blk]))) (set_grown _ (w.heap.size + 1 + 1) 1 _) (.inr (by simp [blk]))) b2
 have lo2 : Hid (∀ b,blk I' = some b → w1.heap.size ≤ b ∧ b < w2.heap.size):=Lib.hid (fun b hb => Own.lt o2' hb)
 clear b2 o2
 go_wp2_with fail
 refine (toHandleS_any F cf B fs _ (hF.below (Below.mono (B:=w.heap.size) (by repeat (first | assumption | exact Below.refl _ _ | refine Below.setCell ?_ (by first | omega | (simp; done) | (simp; omega)) _)) hB)) (Nat.le_trans hB (Below.size (B:=w.heap.size) (by repeat (first | assumption | exact Below.refl _ _ | refine Below.setCell ?_ (by first | omega | (simp; done) | (simp; omega)) _)))) hlf).mono ?_
 rintro e w3 ⟨F',rfl,o3,b3⟩
 obtain ⟨hc3,hf3⟩:=bcell b3
 have k3 : Below w.heap.size w w3:=Below.trans (B:=w.heap.size) (by repeat (first | assumption | exact Below.refl _ _ | refine Below.setCell ?_ (by first | omega | (simp; done) | (simp; omega)) _)) (b3.mono (by have:=k2.size; simp; omega))
 have hz3 : w2.heap.size ≤ w3.heap.size:=by have:=b3.size; simpa using this
 have y3a : w.heap.size < w3.heap.size:=by omega
 have y3b : w.heap.size + 1 < w3.heap.size:=by omega
 have y3c : w.heap.size + 1 + 1 < w3.heap.size:=by omega
 have o2b:=Own.below (own_set o2' _ _ _ (by omega)) b3
 have oR3:=Own.below (Own.kept oR2 (set_grown _ (w.heap.size + 1 + 1) 2 _) (.inr (by simp [blk]))) b3
 have o3':=Own.more (base':=w2.heap.size) o3 (by simp)
 have lo3 : Hid (∀ b,blk F' = some b → w2.heap.size ≤ b ∧ b < w3.heap.size):=Lib.hid (fun b hb => Own.lt o3' hb)
 clear b3 o3 o2'
 go_wp2_with fail
 have r0:=oR3.cell rfl (j:=0) (by omega)
 have rf0:=oR3.frozen rfl 0
 have r1:=oR3.cell rfl (j:=1) (by omega)
 have rf1:=oR3.frozen rfl 1
 have r2:=oR3.cell rfl (j:=2) (by omega)
 have rf2:=oR3.frozen rfl 2
 have r3:=oR3.cell rfl (j:=3) (by omega)
 have rf3:=oR3.frozen rfl 3
 have r4:=oR3.cell rfl (j:=4) (by omega)
 have rf4:=oR3.frozen rfl 4
 simp only [zBr] at r0 r1 r2 r3 r4
 have F1:=(own_set (own_set (own_set (own_set (own_set (own_set (own_set o2b (w.heap.size + 1 + 1) 3 (Value.slice F' fs.length fs.length) (by omega)) (w.heap.size + 1 + 1) 4 (Value.int .i64 nx) (by omega)) (w.heap.size + 1) 0 (Value.string who.1) (by omega)) (w.heap.size + 1) 1 (Value.string who.2) (by omega)) (w.heap.size + 1) 2 (Value.slice I' is.length is.length) (by omega)) (w.heap.size + 1) 3 (Value.slice F' fs.length fs.length) (by omega)) (w.heap.size + 1) 4 (Value.int .i64 nx) (by omega))
 have F2:=(own_set (own_set (own_set (own_set (own_set (own_set (own_set o3' (w.heap.size + 1 + 1) 3 (Value.slice F' fs.length fs.length) (by omega)) (w.heap.size + 1 + 1) 4 (Value.int .i64 nx) (by omega)) (w.heap.size + 1) 0 (Value.string who.1) (by omega)) (w.heap.size + 1) 1 (Value.string who.2) (by omega)) (w.heap.size + 1) 2 (Value.slice I' is.length is.length) (by omega)) (w.heap.size + 1) 3 (Value.slice F' fs.length fs.length) (by omega)) (w.heap.size + 1) 4 (Value.int .i64 nx) (by omega))
 have K3:=(((((((k3.setCell (p:=⟨w.heap.size + 1 + 1,3,none⟩) (by show w.heap.size ≤ w.heap.size + 1 + 1; omega) (Value.slice F' fs.length fs.length)).setCell (p:=⟨w.heap.size + 1 + 1,4,none⟩) (by show w.heap.size ≤ w.heap.size + 1 + 1; omega) (Value.int .i64 nx)).setCell (p:=⟨w.heap.size + 1,0,none⟩) (by show w.heap.size ≤ w.heap.size + 1; omega) (Value.string who.1)).setCell (p:=⟨w.heap.size + 1,1,none⟩) (by show w.heap.size ≤ w.heap.size + 1; omega) (Value.string who.2)).setCell (p:=⟨w.heap.size + 1,2,none⟩) (by show w.heap.size ≤ w.heap.size + 1; omega) (Value.slice I' is.length is.length)).setCell (p:=⟨w.heap.size + 1,3,none⟩) (by show w.heap.size ≤ w.heap.size + 1; omega) (Value.slice F' fs.length fs.length)).setCell (p:=⟨w.heap.size + 1,4,none⟩) (by show w.heap.size ≤ w.heap.size + 1; omega) (Value.int .i64 nx))
 clear hc1 hc2 hf1 hf2 oR1 oR2
 exact bodyPost_ret (v:=.agg #[.string who.1,.string who.2,.slice I' is.length is.length,.slice F' fs.length fs.length,.int .i64 nx]) (by simp [results,Tryz.results9,go_sem,r0,r1,r2,r3,r4]) rfl ⟨I',is.length,F',fs.length,w2.heap.size,rfl,Own.more F1 (by omega),fun b hb => (lo2.out b hb).2,by omega,F2,K3⟩
set_option maxHeartbeats 1600000 in
theorem eqBridge_self (who : ElHandle) (I : Option Addr) (ci : Nat) (is : List ElItem) (F : Option Addr) (cf : Nat) (fs : List ElHandle) (nx : Int) (I2 F2 : Option Addr) (ci2 cf2 : Nat) (w : World) (B : Nat) (hI : RdE 4 encItem w B I is) (hF : RdE 2 encHandle w B F fs) (hB : B ≤ w.heap.size) (hI2 : RdE 4 encItem w B I2 is) (hF2 : RdE 2 encHandle w B F2 fs) (hl : is.length ≤ 140737488351232) (hlf : fs.length ≤ 140737488351232) :
    Calls Tryz.prog 11 #[.agg #[.string who.1,.string who.2,.slice I is.length ci,.slice F fs.length cf,.int .i64 nx],.agg #[.string who.1,.string who.2,.slice I2 is.length ci2,.slice F2 fs.length cf2,.int .i64 nx]] w fun e w' => e = .returned (.bool true) ∧ Below w.heap.size w w':=by
 have hbA : Below w.heap.size w ((w.alloc (.cells #[Value.string who.1,Value.string who.2,Value.slice I is.length ci,Value.slice F fs.length cf,Value.int .i64 nx] 33)).alloc (.cells #[Value.string who.1,Value.string who.2,Value.slice I2 is.length ci2,Value.slice F2 fs.length cf2,Value.int .i64 nx] 33)):=((Below.refl _ _).alloc (Nat.le_refl _) _).alloc (by simp) _
 have hzA : w.heap.size + 1 < ((w.alloc (.cells #[Value.string who.1,Value.string who.2,Value.slice I is.length ci,Value.slice F fs.length cf,Value.int .i64 nx] 33)).alloc (.cells #[Value.string who.1,Value.string who.2,Value.slice I2 is.length ci2,Value.slice F2 fs.length cf2,Value.int .i64 nx] 33)).heap.size:=by simp
 have e1:=eqEl_true (α:=ElHandle) (x:=who) rfl
 have e2:=sameB_self is
 have e3:=sameB_self fs
 have q0 : ((w.alloc (.cells #[Value.string who.1,Value.string who.2,Value.slice I is.length ci,Value.slice F fs.length cf,Value.int .i64 nx] 33)).alloc (.cells #[Value.string who.1,Value.string who.2,Value.slice I2 is.length ci2,Value.slice F2 fs.length cf2,Value.int .i64 nx] 33)).cell? ⟨w.heap.size,0,none⟩ = some (Value.string who.1):=by rw [((Below.refl (w.heap.size + 1) (w.alloc (.cells #[Value.string who.1,Value.string who.2,Value.slice I is.length ci,Value.slice F fs.length cf,Value.int .i64 nx] 33))).alloc (by simp) _).cell (by show w.heap.size < w.heap.size + 1; omega),World.cell?_alloc_at _ _ _ _ rfl]; rfl
 have q1 : ((w.alloc (.cells #[Value.string who.1,Value.string who.2,Value.slice I is.length ci,Value.slice F fs.length cf,Value.int .i64 nx] 33)).alloc (.cells #[Value.string who.1,Value.string who.2,Value.slice I2 is.length ci2,Value.slice F2 fs.length cf2,Value.int .i64 nx] 33)).cell? ⟨w.heap.size,1,none⟩ = some (Value.string who.2):=by rw [((Below.refl (w.heap.size + 1) (w.alloc (.cells #[Value.string who.1,Value.string who.2,Value.slice I is.length ci,Value.slice F fs.length cf,Value.int .i64 nx] 33))).alloc (by simp) _).cell (by show w.heap.size < w.heap.size + 1; omega),World.cell?_alloc_at _ _ _ _ rfl]; rfl
 have q2 : ((w.alloc (.cells #[Value.string who.1,Value.string who.2,Value.slice I is.length ci,Value.slice F fs.length cf,Value.int .i64 nx] 33)).alloc (.cells #[Value.string who.1,Value.string who.2,Value.slice I2 is.length ci2,Value.slice F2 fs.length cf2,Value.int .i64 nx] 33)).cell? ⟨w.heap.size,2,none⟩ = some (Value.slice I is.length ci):=by rw [((Below.refl (w.heap.size + 1) (w.alloc (.cells #[Value.string who.1,Value.string who.2,Value.slice I is.length ci,Value.slice F fs.length cf,Value.int .i64 nx] 33))).alloc (by simp) _).cell (by show w.heap.size < w.heap.size + 1; omega),World.cell?_alloc_at _ _ _ _ rfl]; rfl
 have q3 : ((w.alloc (.cells #[Value.string who.1,Value.string who.2,Value.slice I is.length ci,Value.slice F fs.length cf,Value.int .i64 nx] 33)).alloc (.cells #[Value.string who.1,Value.string who.2,Value.slice I2 is.length ci2,Value.slice F2 fs.length cf2,Value.int .i64 nx] 33)).cell? ⟨w.heap.size,3,none⟩ = some (Value.slice F fs.length cf):=by rw [((Below.refl (w.heap.size + 1) (w.alloc (.cells #[Value.string who.1,Value.string who.2,Value.slice I is.length ci,Value.slice F fs.length cf,Value.int .i64 nx] 33))).alloc (by simp) _).cell (by show w.heap.size < w.heap.size + 1; omega),World.cell?_alloc_at _ _ _ _ rfl]; rfl
 have q4 : ((w.alloc (.cells #[Value.string who.1,Value.string who.2,Value.slice I is.length ci,Value.slice F fs.length cf,Value.int .i64 nx] 33)).alloc (.cells #[Value.string who.1,Value.string who.2,Value.slice I2 is.length ci2,Value.slice F2 fs.length cf2,Value.int .i64 nx] 33)).cell? ⟨w.heap.size,4,none⟩ = some (Value.int .i64 nx):=by rw [((Below.refl (w.heap.size + 1) (w.alloc (.cells #[Value.string who.1,Value.string who.2,Value.slice I is.length ci,Value.slice F fs.length cf,Value.int .i64 nx] 33))).alloc (by simp) _).cell (by show w.heap.size < w.heap.size + 1; omega),World.cell?_alloc_at _ _ _ _ rfl]; rfl
 have p0 : ((w.alloc (.cells #[Value.string who.1,Value.string who.2,Value.slice I is.length ci,Value.slice F fs.length cf,Value.int .i64 nx] 33)).alloc (.cells #[Value.string who.1,Value.string who.2,Value.slice I2 is.length ci2,Value.slice F2 fs.length cf2,Value.int .i64 nx] 33)).cell? ⟨w.heap.size + 1,0,none⟩ = some (Value.string who.1):=by rw [World.cell?_alloc_at _ _ _ _ (by simp)]; rfl
 have p1 : ((w.alloc (.cells #[Value.string who.1,Value.string who.2,Value.slice I is.length ci,Value.slice F fs.length cf,Value.int .i64 nx] 33)).alloc (.cells #[Value.string who.1,Value.string who.2,Value.slice I2 is.length ci2,Value.slice F2 fs.length cf2,Value.int .i64 nx] 33)).cell? ⟨w.heap.size + 1,1,none⟩ = some (Value.string who.2):=by rw [World.cell?_alloc_at _ _ _ _ (by simp)]; rfl
 have p2 : ((w.alloc (.cells #[Value.string who.1,Value.string who.2,Value.slice I is.length ci,Value.slice F fs.length cf,Value.int .i64 nx] 33)).alloc (.cells #[Value.string who.1,Value.string who.2,Value.slice I2 is.length ci2,Value.slice F2 fs.length cf2,Value.int .i64 nx] 33)).cell? ⟨w.heap.size + 1,2,none⟩ = some (Value.slice I2 is.length ci2):=by rw [World.cell?_alloc_at _ _ _ _ (by simp)]; rfl
 have p3 : ((w.alloc (.cells #[Value.string who.1,Value.string who.2,Value.slice I is.length ci,Value.slice F fs.length cf,Value.int .i64 nx] 33)).alloc (.cells #[Value.string who.1,Value.string who.2,Value.slice I2 is.length ci2,Value.slice F2 fs.length cf2,Value.int .i64 nx] 33)).cell? ⟨w.heap.size + 1,3,none⟩ = some (Value.slice F2 fs.length cf2):=by rw [World.cell?_alloc_at _ _ _ _ (by simp)]; rfl
 have p4 : ((w.alloc (.cells #[Value.string who.1,Value.string who.2,Value.slice I is.length ci,Value.slice F fs.length cf,Value.int .i64 nx] 33)).alloc (.cells #[Value.string who.1,Value.string who.2,Value.slice I2 is.length ci2,Value.slice F2 fs.length cf2,Value.int .i64 nx] 33)).cell? ⟨w.heap.size + 1,4,none⟩ = some (Value.int .i64 nx):=by rw [World.cell?_alloc_at _ _ _ _ (by simp)]; rfl
 go_enter Tryz.func11,Tryz.ntmps11
 go_wp2_with fail
 generalize ((w.alloc (.cells #[Value.string who.1,Value.string who.2,Value.slice I is.length ci,Value.slice F fs.length cf,Value.int .i64 nx] 33)).alloc (.cells #[Value.string who.1,Value.string who.2,Value.slice I2 is.length ci2,Value.slice F2 fs.length cf2,Value.int .i64 nx] 33)) = wA at *
 refine (eqHandle_any who.1 who.2 who.1 who.2 wA).mono ?_
 rintro e w1 ⟨rfl,b1⟩
 rw [show eqEl (α:=ElHandle) (who.1,who.2) (who.1,who.2) = true from e1]
 have k1:=hbA.trans (b1.mono hbA.size)
 have z1 : w.heap.size + 1 < w1.heap.size:=by have:=b1.size; omega
 have q2':=(b1.cell (p:=⟨w.heap.size,2,none⟩) (by show w.heap.size < _; omega)).trans q2
 have q3':=(b1.cell (p:=⟨w.heap.size,3,none⟩) (by show w.heap.size < _; omega)).trans q3
 have q4':=(b1.cell (p:=⟨w.heap.size,4,none⟩) (by show w.heap.size < _; omega)).trans q4
 have p2':=(b1.cell (p:=⟨w.heap.size + 1,2,none⟩) (by show w.heap.size + 1 < _; omega)).trans p2
 have p3':=(b1.cell (p:=⟨w.heap.size + 1,3,none⟩) (by show w.heap.size + 1 < _; omega)).trans p3
 have p4':=(b1.cell (p:=⟨w.heap.size + 1,4,none⟩) (by show w.heap.size + 1 < _; omega)).trans p4
 go_wp2_with fail
 refine (eqItemS_any I I2 ci ci2 B is is w1 (hI.below (k1.mono hB)) (hI2.below (k1.mono hB)) (Nat.le_trans hB k1.size) hl hl).mono ?_
 rintro e w2 ⟨rfl,b2⟩
 rw [e2]
 have k2:=k1.trans (b2.mono k1.size)
 have z2 : w.heap.size + 1 < w2.heap.size:=by have:=b2.size; omega
 have q2'':=(b2.cell (p:=⟨w.heap.size,2,none⟩) (by show w.heap.size < _; omega)).trans q2'
 have q3'':=(b2.cell (p:=⟨w.heap.size,3,none⟩) (by show w.heap.size < _; omega)).trans q3'
 have q4'':=(b2.cell (p:=⟨w.heap.size,4,none⟩) (by show w.heap.size < _; omega)).trans q4'
 have p2'':=(b2.cell (p:=⟨w.heap.size + 1,2,none⟩) (by show w.heap.size + 1 < _; omega)).trans p2'
 have p3'':=(b2.cell (p:=⟨w.heap.size + 1,3,none⟩) (by show w.heap.size + 1 < _; omega)).trans p3'
 have p4'':=(b2.cell (p:=⟨w.heap.size + 1,4,none⟩) (by show w.heap.size + 1 < _; omega)).trans p4'
 go_wp2_with fail
 refine (eqHandleS_any F F2 cf cf2 B fs fs w2 (hF.below (k2.mono hB)) (hF2.below (k2.mono hB)) (Nat.le_trans hB k2.size) hlf hlf).mono ?_
 rintro e w3 ⟨rfl,b3⟩
 rw [e3]
 have k3:=k2.trans (b3.mono k2.size)
 have q2''':=(b3.cell (p:=⟨w.heap.size,2,none⟩) (by show w.heap.size < _; omega)).trans q2''
 have q3''':=(b3.cell (p:=⟨w.heap.size,3,none⟩) (by show w.heap.size < _; omega)).trans q3''
 have q4''':=(b3.cell (p:=⟨w.heap.size,4,none⟩) (by show w.heap.size < _; omega)).trans q4''
 have p2''':=(b3.cell (p:=⟨w.heap.size + 1,2,none⟩) (by show w.heap.size + 1 < _; omega)).trans p2''
 have p3''':=(b3.cell (p:=⟨w.heap.size + 1,3,none⟩) (by show w.heap.size + 1 < _; omega)).trans p3''
 have p4''':=(b3.cell (p:=⟨w.heap.size + 1,4,none⟩) (by show w.heap.size + 1 < _; omega)).trans p4''
 have en : (nx != nx) = false:=by simp
 go_wp2_with fail
 go_ret
 exact ⟨rfl,k3⟩
end Go.Proofs.YtfnmlffpnmmcdaaGreatDoor
namespace Go.Proofs.YtfnmlffpnmmcdaaGreatDoor
set_option maxRecDepth 100000
open Go.RowKit
theorem kept_of {A R : Option Addr} (h : ∀ b,blk A = some b → blk R ≠ some b) : blk A = none ∨ blk A ≠ blk R:=by
 cases hA : blk A with
 | none => exact .inl rfl
 | some b => exact .inr (fun e => h b hA e.symm)
set_option maxHeartbeats 800000 in
theorem markBridge_any (who : ElHandle) (nx : Int) (base : Nat) (I : Option Addr) (n ci : Nat) (f : Nat → Value) (F : Option Addr) (m cf : Nat) (g : Nat → Value) (k : Int) (w : World) (hI : Own w base 69 4 I n ci f) (hF : Own w base 29 2 F m cf g) (hb : base ≤ w.heap.size) (hn : n ≤ 1048576) (hm : m ≤ 1048576) (hk0 : 0 ≤ k) (hk : k ≤ 16777216) :
    Calls Tryz.prog 12 #[.agg #[Value.string who.1,Value.string who.2,Value.slice I n ci,Value.slice F m cf,Value.int .i64 nx],.int .i64 k] w fun e w' => e = .returned (.int .i64 (k + (n : Int) * 4 + (m : Int) * 2)) ∧ Own w' base 69 4 I n ci (mkItem k) ∧ Own w' base 29 2 F m cf (mkHandle (k + (n : Int) * 4)) ∧ (∀ b,b < w.heap.size → blk I ≠ some b → blk F ≠ some b → w'.heap[b]? = w.heap[b]?) ∧ Below base w w':=by
 have oB : Own (w.alloc (.cells #[Value.string who.1,Value.string who.2,Value.slice I n ci,Value.slice F m cf,Value.int .i64 nx] 33)) w.heap.size 33 5 (some ⟨w.heap.size,0,none⟩) 1 1 (bxC who I n ci F m cf nx):=Own.lit w 33 5 1 #[Value.string who.1,Value.string who.2,Value.slice I n ci,Value.slice F m cf,Value.int .i64 nx] (bxC who I n ci F m cf nx) (by simp only [maxLen]; omega) rfl
 have bA : Below w.heap.size w (w.alloc (.cells #[Value.string who.1,Value.string who.2,Value.slice I n ci,Value.slice F m cf,Value.int .i64 nx] 33)):=(Below.refl _ _).alloc (Nat.le_refl _) _
 have a0:=(show _ = some (Value.string who.1) from oB.cell rfl (j:=0) (by omega))
 have a1:=(show _ = some (Value.string who.2) from oB.cell rfl (j:=1) (by omega))
 have a2:=(show _ = some (Value.slice I n ci) from oB.cell rfl (j:=2) (by omega))
 have a3:=(show _ = some (Value.slice F m cf) from oB.cell rfl (j:=3) (by omega))
 have a4:=(show _ = some (Value.int .i64 nx) from oB.cell rfl (j:=4) (by omega))
 have hIA:=Own.below hI bA
 have hFA:=Own.below hF bA
 have zA:=bA.size
 go_enter Tryz.func12,Tryz.ntmps12
 go_wp2_with fail
 generalize (w.alloc (.cells #[Value.string who.1,Value.string who.2,Value.slice I n ci,Value.slice F m cf,Value.int .i64 nx] 33)) = wA at *
 refine (markItemS_any base I n ci f k wA hIA hn hk0 (by omega)).mono ?_
 rintro e w1 ⟨rfl,o1,g1⟩
 have oB1:=Own.kept oB g1 (kept_of (own_ne oB hIA (by decide)))
 have hF1:=Own.kept hFA g1 (kept_of (own_ne hFA hIA (by decide)))
 have z1:=g1.size
 clear a0 a1 a2 a3 a4
 have a0:=(show _ = some (Value.string who.1) from oB1.cell rfl (j:=0) (by omega))
 have a1:=(show _ = some (Value.string who.2) from oB1.cell rfl (j:=1) (by omega))
 have a2:=(show _ = some (Value.slice I n ci) from oB1.cell rfl (j:=2) (by omega))
 have a3:=(show _ = some (Value.slice F m cf) from oB1.cell rfl (j:=3) (by omega))
 have a4:=(show _ = some (Value.int .i64 nx) from oB1.cell rfl (j:=4) (by omega))
 go_wp2_with fail
 refine (markHandleS_any base F m cf g (k + (n : Int) * 4) w1 hF1 hm (by omega) (by omega)).mono ?_
 rintro e w2 ⟨rfl,o2,g2⟩
 have o1b:=Own.kept o1 g2 (kept_of (own_ne o1 hF1 (by decide)))
 go_wp2_with fail
 go_ret
 refine ⟨rfl,o1b,o2,fun b hb h1 h2 => ?_,?_⟩
 ·rw [g2.block b (by omega) (fun e => h2 e.symm),g1.block b (by omega) (fun e => h1 e.symm),← (bA.block b hb)]
 ·exact ((bA.mono hb).trans (grown_below g1 (fun b hb => (Own.lt hIA hb).1) (by omega))).trans (grown_below g2 (fun b hb => (Own.lt hF1 hb).1) (by omega))
set_option maxHeartbeats 800000 in
theorem heldBridge_any (who : ElHandle) (nx : Int) (B : Nat) (I : Option Addr) (n ci : Nat) (F : Option Addr) (m cf : Nat) (k : Int) (w : World) (hI : Rd w B 4 I n (mkItem k)) (hF : Rd w B 2 F m (mkHandle (k + (n : Int) * 4))) (hB : B ≤ w.heap.size) (hn : n ≤ 1048576) (hm : m ≤ 1048576) (hk0 : 0 ≤ k) (hk : k ≤ 16777216) :
    Calls Tryz.prog 13 #[.agg #[Value.string who.1,Value.string who.2,Value.slice I n ci,Value.slice F m cf,Value.int .i64 nx],.int .i64 k] w fun e w' => e = .returned (.int .i64 (k + (n : Int) * 4 + (m : Int) * 2)) ∧ Below w.heap.size w w':=by
 have oB : Own (w.alloc (.cells #[Value.string who.1,Value.string who.2,Value.slice I n ci,Value.slice F m cf,Value.int .i64 nx] 33)) w.heap.size 33 5 (some ⟨w.heap.size,0,none⟩) 1 1 (bxC who I n ci F m cf nx):=Own.lit w 33 5 1 #[Value.string who.1,Value.string who.2,Value.slice I n ci,Value.slice F m cf,Value.int .i64 nx] (bxC who I n ci F m cf nx) (by simp only [maxLen]; omega) rfl
 have bA : Below w.heap.size w (w.alloc (.cells #[Value.string who.1,Value.string who.2,Value.slice I n ci,Value.slice F m cf,Value.int .i64 nx] 33)):=(Below.refl _ _).alloc (Nat.le_refl _) _
 have a0:=(show _ = some (Value.string who.1) from oB.cell rfl (j:=0) (by omega))
 have a1:=(show _ = some (Value.string who.2) from oB.cell rfl (j:=1) (by omega))
 have a2:=(show _ = some (Value.slice I n ci) from oB.cell rfl (j:=2) (by omega))
 have a3:=(show _ = some (Value.slice F m cf) from oB.cell rfl (j:=3) (by omega))
 have a4:=(show _ = some (Value.int .i64 nx) from oB.cell rfl (j:=4) (by omega))
 have d1 : decide (k + (n : Int) * 4 < 0) = false:=decide_eq_false (by omega)
 have d2 : decide (k + (n : Int) * 4 + (m : Int) * 2 < 0) = false:=decide_eq_false (by omega)
 have zA:=bA.size
 go_enter Tryz.func13,Tryz.ntmps13
 go_wp2_with fail
 generalize (w.alloc (.cells #[Value.string who.1,Value.string who.2,Value.slice I n ci,Value.slice F m cf,Value.int .i64 nx] 33)) = wA at *
 refine (heldItemS_any B I n ci k wA (Rd.below hI (bA.mono hB)) (by omega) hn hk0 (by omega)).mono ?_
 rintro e w1 ⟨rfl,b1⟩
 have oB1:=Own.below oB b1
 have k1:=bA.trans (b1.mono zA)
 have z1:=k1.size
 clear a0 a1 a2 a3 a4
 have a0:=(show _ = some (Value.string who.1) from oB1.cell rfl (j:=0) (by omega))
 have a1:=(show _ = some (Value.string who.2) from oB1.cell rfl (j:=1) (by omega))
 have a2:=(show _ = some (Value.slice I n ci) from oB1.cell rfl (j:=2) (by omega))
 have a3:=(show _ = some (Value.slice F m cf) from oB1.cell rfl (j:=3) (by omega))
 have a4:=(show _ = some (Value.int .i64 nx) from oB1.cell rfl (j:=4) (by omega))
 go_wp2_with fail
 refine (heldHandleS_any B F m cf (k + (n : Int) * 4) w1 (Rd.below hF (k1.mono hB)) (by omega) hm (by omega) (by omega)).mono ?_
 rintro e w2 ⟨rfl,b2⟩
 go_wp2_with fail
 go_ret
 exact ⟨rfl,k1.trans (b2.mono z1)⟩
end Go.Proofs.YtfnmlffpnmmcdaaGreatDoor
namespace Go.Proofs.YtfnmlffpnmmcdaaGreatDoor
set_option maxRecDepth 100000
open Go.RowKit
theorem RdE.str {w : World} {B : Nat} {A : Option Addr} {xs : List ByteArray} (h : RdE 1 encStr w B A xs) (hn : 0 < xs.length) : ∃ b off,A = some ⟨b,off,none⟩ ∧ b < B ∧ ∀ k,k < xs.length → w.cell? ⟨b,off + k,none⟩ = some (.string (gt xs k)):=by
 obtain ⟨b,off,e,hb,hc⟩:=h.at_ hn
 refine ⟨b,off,e,hb,fun k hk => ?_⟩
 have:=hc k 0 hk (by omega)
 rwa [Nat.mul_one,Nat.add_zero] at this
def totStr (xs : List ByteArray) : Nat:=xs.length + (xs.map ByteArray.size).sum
def byToStr (xs : List ByteArray) (k : Nat) : Nat:=((xs.take k).map ByteArray.size).sum
theorem sum_leStr (xs : List ByteArray) (k : Nat) : byToStr xs k ≤ (xs.map ByteArray.size).sum:=by
 unfold byToStr
 conv => rhs; rw [← List.take_append_drop k xs,List.map_append,List.sum_append]
 omega
theorem sum_stepStr {xs : List ByteArray} {k : Nat} (h : k < xs.length) : byToStr xs (k + 1) = byToStr xs k + (gt xs k).size:=by
 unfold byToStr
 rw [take_snoc h,List.map_append,List.sum_append]; simp
theorem byTo_zeroStr (xs : List ByteArray) : byToStr xs 0 = 0:=rfl
theorem byTo_allStr (xs : List ByteArray) : byToStr xs xs.length = (xs.map ByteArray.size).sum:=by unfold byToStr; rw [List.take_length]
set_option maxHeartbeats 800000 in
theorem szStringS_any (A : Option Addr) (cap B : Nat) (xs : List ByteArray) (left : Int) (w : World) (h : RdE 1 encStr w B A xs) (hB : B ≤ w.heap.size) (hl : xs.length ≤ 9223372036854775807) (hsz : ∀ k,k < xs.length → (gt xs k).size ≤ maxLen) (h0 : 0 ≤ left) (h1 : left ≤ 1048576) :
    Calls Tryz.prog 21 #[.slice A xs.length cap,.int .i64 left] w fun e w' => e = .returned (.int .i64 (szL left (totStr xs))) ∧ Below w.heap.size w w':=by
 by_cases hlt : left - (xs.length : Int) < 0
 ·have hd : decide (left - (xs.length : Int) < 0) = true:=by simp [hlt]
  have HZ:=Lib.hid (szL_no (left:=left) (n:=totStr xs) (by unfold totStr; omega))
  go_enter Tryz.func21,Tryz.ntmps21
  go_wp2_with fail
  go_ret
  exact ⟨ret_int HZ.out.symm,Below.refl _ _⟩
 ·have hd : decide (left - (xs.length : Int) < 0) = false:=by simp; omega
  have HD:=Lib.hid hsz
  clear hsz
  go_enter Tryz.func21,Tryz.ntmps21
  go_wp2_with fail
  go_loopw [1,5] (fun q i wr => ∃ k : Nat,k ≤ xs.length ∧ i = .int .i64 k ∧ q = .int .i64 (left - xs.length - byToStr xs k) ∧ 0 ≤ left - xs.length - (byToStr xs k : Nat) ∧ Below w.heap.size w wr) (fun _ i _ => xs.length - (intOf i).toNat)
  case atStart => exact ⟨0,Nat.zero_le _,rfl,by rw [byTo_zeroStr]; simp,by rw [byTo_zeroStr]; simp; omega,Below.refl _ _⟩
  case round =>
   obtain ⟨k,hk,rfl,rfl,hq,hbl⟩:=hrel
   have hle:=sum_leStr xs k
   by_cases hlt2 : k < xs.length
   ·have hst:=sum_stepStr hlt2
    have hle2:=sum_leStr xs (k + 1)
    have z0:=HD.out k hlt2
    unfold maxLen at z0
    obtain ⟨b,off,rfl,hb,hc⟩:=(h.below (hbl.mono hB)).str (by omega)
    have c0:=hc k hlt2
    clear hc
    by_cases hz : left - (xs.length : Int) - (byToStr xs k : Nat) - ((gt xs k).size : Int) < 0
    ·have hdz : decide (left - (xs.length : Int) - ((byToStr xs k : Nat) : Int) - ((gt xs k).size : Int) < 0) = true:=decide_eq_true hz
     have HZ:=Lib.hid (szL_no (left:=left) (n:=totStr xs) (by unfold totStr; omega))
     go_wp2_with fail
     go_ret
     exact ⟨ret_int HZ.out.symm,hbl⟩
    ·have hdz : decide (left - (xs.length : Int) - ((byToStr xs k : Nat) : Int) - ((gt xs k).size : Int) < 0) = false:=decide_eq_false hz
     have HS:=Lib.hid hst
     clear hst hle hle2
     go_wp2_with fail
     go_roundw
     case rel => exact ⟨k + 1,by omega,by go_num,by rw [HS.out]; go_num,by rw [HS.out]; omega,hbl⟩
     case measure => simp [intOf]; omega
   ·obtain rfl : k = xs.length:=by omega
    have HZ:=Lib.hid (szL_yes (left:=left) (n:=totStr xs) (by unfold totStr; rw [← byTo_allStr]; omega))
    have HA:=Lib.hid (byTo_allStr xs)
    go_wp2_with fail
    go_ret
    exact ⟨ret_int (by rw [HZ.out,HA.out]; unfold totStr; omega),hbl⟩
set_option maxHeartbeats 800000 in
theorem toStringS_raw (A : Option Addr) (cap B : Nat) (xs : List ByteArray) (w : World) (h : RdE 1 encStr w B A xs) (hB : B ≤ w.heap.size) (hl : xs.length ≤ 1048576) :
    Calls Tryz.prog 23 #[.slice A xs.length cap] w fun e w' => e = .returned (.slice (some ⟨w.heap.size,0,none⟩) xs.length xs.length) ∧ w.alloc (.cells (rowC (cE 1 encStr xs) xs.length) 9) = w':=by
 have hmk:=mk_run (P:=Tryz.prog) 51 9 _ _ _ Tryz.underlying51 info_String xs.length (by omega) (by omega)
 simp only [Nat.mul_one] at hmk
 go_enter Tryz.func23,Tryz.ntmps23
 go_wp2_with fail
 go_loopw [4] (fun i wr => ∃ k : Nat,k ≤ xs.length ∧ i = .int .i64 k ∧ wr = w.alloc (.cells (cpC #[.string ByteArray.empty] (cE 1 encStr xs) xs.length k) 9)) (fun i _ => xs.length - (intOf i).toNat)
 case atStart => exact ⟨0,Nat.zero_le _,rfl,by rw [cpC_zero]⟩
 case round =>
  obtain ⟨k,hk,rfl,rfl⟩:=hrel
  by_cases hlt : k < xs.length
  ·obtain ⟨b,off,rfl,hb,hc⟩:=h.str (by omega)
   have hck:=hc k hlt
   have HC:=Lib.hid hc; clear hc
   have hck' : (w.alloc (.cells (cpC #[.string ByteArray.empty] (cE 1 encStr xs) xs.length k) 9)).cell? ⟨b,off + k,none⟩ = some (.string (gt xs k)):=by
    rw [World.cell?_alloc_past _ _ _ (by omega)]; exact hck
   have hcg:=cpC_get #[.string ByteArray.empty] (cE 1 encStr xs) (k:=k) hlt
   simp only [Nat.lt_irrefl,if_false] at hcg
   have hce : cE 1 encStr xs k = .string (gt xs k):=by unfold cE; rw [Nat.div_one]; rfl
   have HSET:=Lib.hid (show (cpC #[.string ByteArray.empty] (cE 1 encStr xs) xs.length k).setIfInBounds k (.string (gt xs k)) = cpC #[.string ByteArray.empty] (cE 1 encStr xs) xs.length (k + 1) by rw [← hce]; exact cpC_set _ _ _ _ hlt)
   clear hce
   go_wp2_with fail
   go_roundw
   case rel => exact ⟨k + 1,by omega,by go_num,by rw [← HSET.out]⟩
   case measure => simp [intOf]; omega
  ·obtain rfl : k = xs.length:=by omega
   go_wp2_with fail
   go_ret
   exact ⟨rfl,by rw [cpC_all]⟩
theorem toStringS_any (A : Option Addr) (cap B : Nat) (xs : List ByteArray) (w : World) (h : RdE 1 encStr w B A xs) (hB : B ≤ w.heap.size) (hl : xs.length ≤ 1048576) :
    Calls Tryz.prog 23 #[.slice A xs.length cap] w fun e w' => ∃ A' : Option Addr,e = .returned (.slice A' xs.length xs.length) ∧ OwnE 1 encStr 9 w' w.heap.size A' xs.length xs ∧ Below w.heap.size w w' :=
 (toStringS_raw A cap B xs w h hB hl).mono fun e w' ⟨he,hw⟩ => ⟨_,he,by
  rw [← hw]
  have:=Own.new w 9 1 xs.length (cE 1 encStr xs) (by simp only [maxLen]; omega)
  rw [Nat.mul_one] at this
  exact this,by rw [← hw]; exact (Below.refl _ _).alloc (Nat.le_refl _) _⟩
set_option maxHeartbeats 800000 in
theorem eqStringS_any (A A' : Option Addr) (cap cap' B : Nat) (xs ys : List ByteArray) (w : World) (h : RdE 1 encStr w B A xs) (h' : RdE 1 encStr w B A' ys) (hB : B ≤ w.heap.size) (hl : xs.length ≤ 140737488351232) (hl' : ys.length ≤ 140737488351232) :
    Calls Tryz.prog 25 #[.slice A xs.length cap,.slice A' ys.length cap'] w fun e w' => e = .returned (.bool (sameB xs ys)) ∧ Below w.heap.size w w':=by
 by_cases hlen : xs.length = ys.length
 ·have HL:=Lib.hid hlen
  have hd : ((xs.length : Int) != (ys.length : Int)) = false:=by rw [hlen]; simp
  have hle : xs.length ≤ ys.length:=by omega
  clear hlen
  go_enter Tryz.func25,Tryz.ntmps25
  go_wp2_with fail
  go_loopw [5] (fun i wr => ∃ k : Nat,k ≤ xs.length ∧ Hid (∀ j,j < k → gt xs j = gt ys j) ∧ i = .int .i64 k ∧ Below w.heap.size w wr) (fun i _ => xs.length - (intOf i).toNat)
  case atStart => exact ⟨0,Nat.zero_le _,Lib.hid (fun j hj => absurd hj (by omega)),rfl,Below.refl _ _⟩
  case round =>
   obtain ⟨k,hk,HO,rfl,hbl⟩:=hrel
   by_cases hlt : k < xs.length
   ·obtain ⟨b,off,rfl,hb,hc⟩:=(h.below (hbl.mono hB)).str (by omega)
    obtain ⟨b',off',rfl,hb',hc'⟩:=(h'.below (hbl.mono hB)).str (by omega)
    have hck:=hc k hlt
    have hck':=hc' k (by omega)
    have hlt' : k < ys.length:=by omega
    clear hc hc'
    by_cases hne : gt xs k = gt ys k
    ·have hq : ((gt xs k).toList == (gt ys k).toList) = true:=by rw [hne]; simp
     have hn : ((gt xs k).toList != (gt ys k).toList) = false:=by unfold bne; rw [hq]; rfl
     have HN:=Lib.hid hne; clear hne
     go_wp2_with fail
     go_quiet (fail)
     go_wp2_with fail
     go_roundw
     case rel => exact ⟨k + 1,by omega,Lib.hid (fun j hj => by
      rcases Nat.lt_succ_iff_lt_or_eq.1 hj with h1 | rfl
      ·exact HO.out j h1
      ·exact HN.out),by go_num,below_drewN hbl _⟩
     case measure => simp [intOf]; omega
    ·have hq : ((gt xs k).toList == (gt ys k).toList) = false:=by rw [seq_eql]; exact seq_false.2 hne
     have hn : ((gt xs k).toList != (gt ys k).toList) = true:=by unfold bne; rw [hq]; rfl
     have HN:=Lib.hid hne; clear hne
     go_wp2_with fail
     go_quiet (fail)
     go_wp2_with fail
     go_ret
     exact ⟨ret_bool (sameB_at HN.out).symm,below_drewN hbl _⟩
   ·obtain rfl : k = xs.length:=by omega
    go_wp2_with fail
    go_ret
    exact ⟨ret_bool (sameB_true HL.out HO.out).symm,hbl⟩
 ·have hd : ((xs.length : Int) != (ys.length : Int)) = true:=by simp; omega
  go_enter Tryz.func25,Tryz.ntmps25
  go_wp2_with fail
  go_ret
  exact ⟨ret_bool (sameB_len hlen).symm,Below.refl _ _⟩
def mkStr (k : Int) (j : Nat) : Value:=.string (mtext (k + j))
set_option maxHeartbeats 800000 in
theorem markStringS_any (base : Nat) (A : Option Addr) (n cap : Nat) (f : Nat → Value) (k : Int) (w : World) (h : Own w base 9 1 A n cap f) (hn : n ≤ 1048576) (hk0 : 0 ≤ k) (hk : k ≤ 33554432) :
    Calls Tryz.prog 26 #[.slice A n cap,.int .i64 k] w fun e w' => e = .returned (.int .i64 (k + (n : Int))) ∧ Own w' base 9 1 A n cap (mkStr k) ∧ w.grownBy w' (blk A):=by
 go_enter Tryz.func26,Tryz.ntmps26
 go_wp2_with fail
 go_loopw [1,5] (fun q i wr => ∃ j : Nat,j ≤ n ∧ q = .int .i64 (k + (j : Int)) ∧ i = .int .i64 j ∧ Own wr base 9 1 A n cap (fun x => if x < j then mkStr k x else f x) ∧ w.grownBy wr (blk A)) (fun _ i _ => n - (intOf i).toNat)
 case atStart => exact ⟨0,Nat.zero_le _,by simp,rfl,by simpa using h,World.grownBy.refl _ _⟩
 case round =>
  obtain ⟨j,hj,rfl,rfl,hown,hgr⟩:=hrel
  by_cases hlt : j < n
  ·rcases hown.shape with ⟨_,h0,_⟩ | ⟨b,hA,hb,hbs,_⟩
   ·omega
   ·subst hA
    go_wp2_with fail
    refine (markText_any _ _ (by omega) (by omega)).mono ?_
    rintro e v0 ⟨rfl,hb0⟩
    have o0:=Own.below hown hb0
    have g0:=keepG hgr hb0 hgr.size
    have c0:=o0.cell rfl (j:=j) (by omega)
    have f0:=o0.frozen rfl j
    have s0:=o0.set rfl (j:=j) (Value.string (mtext (k + (j : Int))))
    have HS:=Lib.hid s0.1
    have HG:=Lib.hid (g0.trans s0.2)
    clear s0 o0 g0 hown hgr
    go_wp2_with fail
    go_roundw
    case rel => exact ⟨j + 1,by omega,by go_num,by go_num,Own.congr HS.out (fun x _ => by
        by_cases hxj : x = j
        ·subst hxj; simp [mkStr]
        ·by_cases hx : x < j
         ·simp [hxj,hx,Nat.lt_succ_of_lt hx]
         ·rw [if_neg hxj,if_neg hx,if_neg (by omega)]),HG.out⟩
    case measure => simp [intOf]; omega
  ·obtain rfl : j = n:=by omega
   go_wp2_with fail
   go_ret
   exact ⟨rfl,Own.congr hown (fun x hx => by rw [if_pos (by omega)]),hgr⟩
set_option maxHeartbeats 800000 in
theorem heldStringS_any (B : Nat) (A : Option Addr) (n cap : Nat) (k : Int) (w : World) (h : Rd w B 1 A n (mkStr k)) (hB : B ≤ w.heap.size) (hn : n ≤ 1048576) (hk0 : 0 ≤ k) (hk : k ≤ 33554432) :
    Calls Tryz.prog 27 #[.slice A n cap,.int .i64 k] w fun e w' => e = .returned (.int .i64 (k + (n : Int))) ∧ Below w.heap.size w w':=by
 go_enter Tryz.func27,Tryz.ntmps27
 go_wp2_with fail
 go_loopw [1,5] (fun q i wr => ∃ j : Nat,j ≤ n ∧ q = .int .i64 (k + (j : Int)) ∧ i = .int .i64 j ∧ Below w.heap.size w wr) (fun _ i _ => n - (intOf i).toNat)
 case atStart => exact ⟨0,Nat.zero_le _,by simp,rfl,Below.refl _ _⟩
 case round =>
  obtain ⟨j,hj,rfl,rfl,hbl⟩:=hrel
  by_cases hlt : j < n
  ·obtain ⟨b,off,rfl,hb,hc⟩:=(h.below (hbl.mono hB)) (by omega)
   have c0:=hc j (by omega)
   have c0 : wr.cell? ⟨b,off + j,none⟩ = some (Value.string (mtext (k + (j : Int)))):=c0
   have hbs : b < wr.heap.size:=by have:=hbl.size; omega
   clear hc
   go_wp2_with fail
   have d0 : wr.drew.cell? ⟨b,off + j,none⟩ = some (Value.string (mtext (k + (j : Int)))):=c0
   have hbd : b < wr.drew.heap.size:=hbs
   have hld:=hbl.drew
   have hlz : w.heap.size ≤ wr.drew.heap.size:=hld.size
   clear c0
   go_region_held3 (fun w' => w'.cell? ⟨b,off + j,none⟩ = some (Value.string (mtext (k + (j : Int))))) (first | exact d0 | exact n0 | go_keep) (first | (go_at_call 74; refine (markText_any _ _ (by omega) (by omega)).mono ?_; rintro e v0 ⟨rfl,hb0⟩; have n0:=(hb0.cell hbd).trans d0; have hl0:=hld.trans (hb0.mono hlz)))
   go_wp2_with fail
   go_roundw
   case rel => exact ⟨j + 1,by omega,by go_num,by go_num,hl0⟩
   case measure => simp [intOf]; omega
  ·obtain rfl : j = n:=by omega
   go_wp2_with fail
   go_ret
   exact ⟨rfl,hbl⟩
end Go.Proofs.YtfnmlffpnmmcdaaGreatDoor
namespace Go.Proofs.YtfnmlffpnmmcdaaGreatDoor
set_option maxRecDepth 100000
open Go.RowKit
set_option maxHeartbeats 6400000 in
theorem implBridgeLines_any (ls : List ByteArray) (A : Option Addr) (ca : Nat) (who : ElHandle) (is : List ElItem) (fs : List ElHandle) (nx : Int) (I : Option Addr) (ci : Nat) (F : Option Addr) (cf B : Nat) (w : World) (hA : RdE 1 encStr w B A ls) (hI : RdE 4 encItem w B I is) (hF : RdE 2 encHandle w B F fs) (hB : B ≤ w.heap.size) (hll : ls.length ≤ 1048576) (hl : is.length ≤ 1048576) (hlf : fs.length ≤ 1048576) (hci : is.length ≤ ci) (hlz : ∀ k,k < ls.length → (gt ls k).size ≤ maxLen) (hiz : ∀ k,k < is.length → (gt is k).1.size ≤ maxLen ∧ (gt is k).2.1.size ≤ maxLen ∧ (gt is k).2.2.1.size ≤ maxLen) (hfz : ∀ k,k < fs.length → (gt fs k).1.size ≤ maxLen ∧ (gt fs k).2.size ≤ maxLen) (hw0 : who.1.size ≤ maxLen) (hw1 : who.2.size ≤ maxLen) (hT : KwTab w) (hE : EsTab w) :
    Calls Tryz.prog 24 #[.agg #[Value.string who.1,Value.string who.2,Value.slice I is.length ci,Value.slice F fs.length cf,Value.int .i64 nx],.slice A ls.length ca] w (OutBls w.heap.size (blsR (who,is,fs,nx) ls) w):=by
 have zw : (w.alloc (.cells #[Value.string who.1,Value.string who.2,Value.slice I is.length ci,Value.slice F fs.length cf,Value.int .i64 nx] 33)).heap.size = w.heap.size + 1:=by simp
 have hbA : Below w.heap.size w ((w.alloc (.cells #[Value.string who.1,Value.string who.2,Value.slice I is.length ci,Value.slice F fs.length cf,Value.int .i64 nx] 33)).alloc (.cells #[Value.string { data:=#[] },Value.string { data:=#[] },Value.slice none 0 0,Value.slice none 0 0,Value.int .i64 0] 33)):=((Below.refl _ _).alloc (Nat.le_refl _) _).alloc (by simp) _
 have zA : ((w.alloc (.cells #[Value.string who.1,Value.string who.2,Value.slice I is.length ci,Value.slice F fs.length cf,Value.int .i64 nx] 33)).alloc (.cells #[Value.string { data:=#[] },Value.string { data:=#[] },Value.slice none 0 0,Value.slice none 0 0,Value.int .i64 0] 33)).heap.size = w.heap.size + 2:=by simp
 have oB : Own ((w.alloc (.cells #[Value.string who.1,Value.string who.2,Value.slice I is.length ci,Value.slice F fs.length cf,Value.int .i64 nx] 33)).alloc (.cells #[Value.string { data:=#[] },Value.string { data:=#[] },Value.slice none 0 0,Value.slice none 0 0,Value.int .i64 0] 33)) w.heap.size 33 5 (some ⟨w.heap.size,0,none⟩) 1 1 (bxC who I is.length ci F fs.length cf nx):=Own.below (Own.lit w 33 5 1 #[Value.string who.1,Value.string who.2,Value.slice I is.length ci,Value.slice F fs.length cf,Value.int .i64 nx] (bxC who I is.length ci F fs.length cf nx) (by simp only [maxLen]; omega) rfl) ((Below.refl _ _).alloc (Nat.le_refl _) _)
 have oR : Own ((w.alloc (.cells #[Value.string who.1,Value.string who.2,Value.slice I is.length ci,Value.slice F fs.length cf,Value.int .i64 nx] 33)).alloc (.cells #[Value.string { data:=#[] },Value.string { data:=#[] },Value.slice none 0 0,Value.slice none 0 0,Value.int .i64 0] 33)) (w.heap.size + 1) 33 5 (some ⟨w.heap.size + 1,0,none⟩) 1 1 zBr':=by
  have:=Own.lit (w.alloc (.cells #[Value.string who.1,Value.string who.2,Value.slice I is.length ci,Value.slice F fs.length cf,Value.int .i64 nx] 33)) 33 5 1 #[Value.string { data:=#[] },Value.string { data:=#[] },Value.slice none 0 0,Value.slice none 0 0,Value.int .i64 0] zBr' (by simp only [maxLen]; omega) rfl
  rw [zw] at this
  exact this
 clear zw
 have HT:=Lib.hid hT
 have HE:=Lib.hid hE
 have HIZ:=Lib.hid hiz
 have HFZ:=Lib.hid hfz
 have HLZ:=Lib.hid hlz
 clear hT hE hiz hfz hlz
 have a0:=(show _ = some (Value.string who.1) from oB.cell rfl (j:=0) (by omega))
 have a1:=(show _ = some (Value.string who.2) from oB.cell rfl (j:=1) (by omega))
 have a2:=(show _ = some (Value.slice I is.length ci) from oB.cell rfl (j:=2) (by omega))
 have a3:=(show _ = some (Value.slice F fs.length cf) from oB.cell rfl (j:=3) (by omega))
 have a4:=(show _ = some (Value.int .i64 nx) from oB.cell rfl (j:=4) (by omega))
 go_enter Tryz.func24,Tryz.ntmps24
 go_wp2_with fail
 generalize ((w.alloc (.cells #[Value.string who.1,Value.string who.2,Value.slice I is.length ci,Value.slice F fs.length cf,Value.int .i64 nx] 33)).alloc (.cells #[Value.string { data:=#[] },Value.string { data:=#[] },Value.slice none 0 0,Value.slice none 0 0,Value.int .i64 0] 33)) = wA at *
 refine (implBridgeValid_any who I ci is F cf fs nx wA B (hI.below (hbA.mono hB)) (hF.below (hbA.mono hB)) (Nat.le_trans hB hbA.size) (by omega) (by omega) hci HIZ.out HFZ.out hw0 hw1).mono ?_
 rintro e w1 ⟨rfl,b1⟩
 have k1:=hbA.trans (b1.mono hbA.size)
 have oB1:=Own.below oB b1
 have oR1:=Own.below oR b1
 have z1 : w.heap.size + 1 < w1.heap.size:=by have:=b1.size; omega
 clear a0 a1 a2 a3 a4
 cases hv : brB who is fs nx
 ·have HQ : Hid (blsR (who,is,fs,nx) ls = (zBr0,[])):=Lib.hid (if_neg (by rintro ⟨h,_⟩; have h : brB who is fs nx = true:=h; rw [hv] at h; cases h))
  clear hv
  have r0:=(show _ = some (Value.string { data:=#[] }) from oR1.cell rfl (j:=0) (by omega))
  have rf0:=oR1.frozen rfl 0
  have r1:=(show _ = some (Value.string { data:=#[] }) from oR1.cell rfl (j:=1) (by omega))
  have rf1:=oR1.frozen rfl 1
  have r2:=(show _ = some (Value.slice none 0 0) from oR1.cell rfl (j:=2) (by omega))
  have rf2:=oR1.frozen rfl 2
  have r3:=(show _ = some (Value.slice none 0 0) from oR1.cell rfl (j:=3) (by omega))
  have rf3:=oR1.frozen rfl 3
  have r4:=(show _ = some (Value.int .i64 0) from oR1.cell rfl (j:=4) (by omega))
  have rf4:=oR1.frozen rfl 4
  go_wp2_with fail
  refine bodyPost_ret (v:=.tuple #[.agg #[Value.string { data:=#[] },Value.string { data:=#[] },Value.slice none 0 0,Value.slice none 0 0,Value.int .i64 0],.slice none 0 0]) ?_ rfl ?_
  ·simp [results,Tryz.results24,go_sem,r0,r1,r2,r3,r4]
  ·rw [HQ.out]
   exact ⟨none,0,none,0,none,0,rfl,Own.nil _ _ _ _ _,Own.nil _ _ _ _ _,Own.nil _ _ _ _ _,(by first | exact k1 | exact (((((k1.setCell (p:=⟨w.heap.size + 1,0,none⟩) (by show w.heap.size ≤ w.heap.size + 1; omega) (Value.string { data:=#[] })).setCell (p:=⟨w.heap.size + 1,1,none⟩) (by show w.heap.size ≤ w.heap.size + 1; omega) (Value.string { data:=#[] })).setCell (p:=⟨w.heap.size + 1,2,none⟩) (by show w.heap.size ≤ w.heap.size + 1; omega) (Value.slice none 0 0)).setCell (p:=⟨w.heap.size + 1,3,none⟩) (by show w.heap.size ≤ w.heap.size + 1; omega) (Value.slice none 0 0)).setCell (p:=⟨w.heap.size + 1,4,none⟩) (by show w.heap.size ≤ w.heap.size + 1; omega) (Value.int .i64 0)))⟩
 ·by_cases h30 : ls.length ≤ 30
  ·have g30 : decide ((30 : Int) < (ls.length : Int)) = false:=decide_eq_false (by omega)
   have HBL : Hid (blsR (who,is,fs,nx) ls = blsTo (who,is,fs,nx) ls ls.length):=Lib.hid (if_pos ⟨hv,h30⟩)
   have HB:=Lib.hid (show brvB (who,is,fs,nx) = true from hv)
   clear hv
   have a0:=(show _ = some (Value.string who.1) from oB1.cell rfl (j:=0) (by omega))
   have a1:=(show _ = some (Value.string who.2) from oB1.cell rfl (j:=1) (by omega))
   have a2:=(show _ = some (Value.slice I is.length ci) from oB1.cell rfl (j:=2) (by omega))
   have a3:=(show _ = some (Value.slice F fs.length cf) from oB1.cell rfl (j:=3) (by omega))
   have a4:=(show _ = some (Value.int .i64 nx) from oB1.cell rfl (j:=4) (by omega))
   go_wp2_with fail
   refine (copyBridge_any who I ci is F cf fs nx w1 B (hI.below (k1.mono hB)) (hF.below (k1.mono hB)) (Nat.le_trans hB k1.size) hl hlf).mono ?_
   rintro e w2 ⟨I',ci',F',cf',rfl,o1,o2,b2⟩
   have k2:=k1.trans (b2.mono k1.size)
   have oB2:=Own.below oB1 b2
   have oR2:=Own.below oR1 b2
   clear a0 a1 a2 a3 a4 hI hF
   have a0:=(show _ = some (Value.string who.1) from oB2.cell rfl (j:=0) (by omega))
   have a1:=(show _ = some (Value.string who.2) from oB2.cell rfl (j:=1) (by omega))
   have a2:=(show _ = some (Value.slice I is.length ci) from oB2.cell rfl (j:=2) (by omega))
   have a3:=(show _ = some (Value.slice F fs.length cf) from oB2.cell rfl (j:=3) (by omega))
   have a4:=(show _ = some (Value.int .i64 nx) from oB2.cell rfl (j:=4) (by omega))
   have pI2:=o1
   have pF2:=o2
   have hnpI : ∀ b,blk I' = some b → b ≠ w.heap.size:=fun b hb => by have:=(Own.lt o1 hb).1; omega
   have hnpF : ∀ b,blk F' = some b → b ≠ w.heap.size:=fun b hb => by have:=(Own.lt o2 hb).1; omega
   have fz0:=oB2.frozen rfl 0
   have fz1:=oB2.frozen rfl 1
   have fz2:=oB2.frozen rfl 2
   have fz3:=oB2.frozen rfl 3
   have fz4:=oB2.frozen rfl 4
   have s0:=Own.set oB2 rfl (j:=0) (Value.string who.1)
   have s1:=Own.set s0.1 rfl (j:=1) (Value.string who.2)
   have s2:=Own.set s1.1 rfl (j:=2) (Value.slice I' is.length ci')
   have s3:=Own.set s2.1 rfl (j:=3) (Value.slice F' fs.length cf')
   have s4:=Own.set s3.1 rfl (j:=4) (Value.int .i64 nx)
   have pI3:=(own_setN (own_setN (own_setN (own_setN (own_setN pI2 w.heap.size 0 (Value.string who.1) hnpI) w.heap.size 1 (Value.string who.2) hnpI) w.heap.size 2 (Value.slice I' is.length ci') hnpI) w.heap.size 3 (Value.slice F' fs.length cf') hnpI) w.heap.size 4 (Value.int .i64 nx) hnpI)
   have pF3:=(own_setN (own_setN (own_setN (own_setN (own_setN pF2 w.heap.size 0 (Value.string who.1) hnpF) w.heap.size 1 (Value.string who.2) hnpF) w.heap.size 2 (Value.slice I' is.length ci') hnpF) w.heap.size 3 (Value.slice F' fs.length cf') hnpF) w.heap.size 4 (Value.int .i64 nx) hnpF)
   have k3:=(((((k2.setCell (p:=⟨w.heap.size,0,none⟩) (by first | exact Nat.le_refl _ | (show w.heap.size ≤ _; omega)) (Value.string who.1)).setCell (p:=⟨w.heap.size,1,none⟩) (by first | exact Nat.le_refl _ | (show w.heap.size ≤ _; omega)) (Value.string who.2)).setCell (p:=⟨w.heap.size,2,none⟩) (by first | exact Nat.le_refl _ | (show w.heap.size ≤ _; omega)) (Value.slice I' is.length ci')).setCell (p:=⟨w.heap.size,3,none⟩) (by first | exact Nat.le_refl _ | (show w.heap.size ≤ _; omega)) (Value.slice F' fs.length cf')).setCell (p:=⟨w.heap.size,4,none⟩) (by first | exact Nat.le_refl _ | (show w.heap.size ≤ _; omega)) (Value.int .i64 nx))
   have oR3:=(own_setN (own_setN (own_setN (own_setN (own_setN oR2 w.heap.size 0 (Value.string who.1) (fun b hb => by simp [blk] at hb; omega)) w.heap.size 1 (Value.string who.2) (fun b hb => by simp [blk] at hb; omega)) w.heap.size 2 (Value.slice I' is.length ci') (fun b hb => by simp [blk] at hb; omega)) w.heap.size 3 (Value.slice F' fs.length cf') (fun b hb => by simp [blk] at hb; omega)) w.heap.size 4 (Value.int .i64 nx) (fun b hb => by simp [blk] at hb; omega))
   have oB3 : Own (((((w2.setCell ⟨w.heap.size,0,none⟩ (Value.string who.1)).setCell ⟨w.heap.size,1,none⟩ (Value.string who.2)).setCell ⟨w.heap.size,2,none⟩ (Value.slice I' is.length ci')).setCell ⟨w.heap.size,3,none⟩ (Value.slice F' fs.length cf')).setCell ⟨w.heap.size,4,none⟩ (Value.int .i64 nx)) w.heap.size 33 5 (some ⟨w.heap.size,0,none⟩) 1 1 (bxC who I' is.length ci' F' fs.length cf' nx):=Own.congr s4.1 (fun j hj => by rcases (by omega : j = 0 ∨ j = 1 ∨ j = 2 ∨ j = 3 ∨ j = 4) with rfl | rfl | rfl | rfl | rfl <;> rfl)
   have z3W : w2.heap.size ≤ (((((w2.setCell ⟨w.heap.size,0,none⟩ (Value.string who.1)).setCell ⟨w.heap.size,1,none⟩ (Value.string who.2)).setCell ⟨w.heap.size,2,none⟩ (Value.slice I' is.length ci')).setCell ⟨w.heap.size,3,none⟩ (Value.slice F' fs.length cf')).setCell ⟨w.heap.size,4,none⟩ (Value.int .i64 nx)).heap.size:=by simp
   go_upto_region 4 with fail
   clear s0 s1 s2 s3 s4 fz0 fz1 fz2 fz3 fz4
   generalize (((((w2.setCell ⟨w.heap.size,0,none⟩ (Value.string who.1)).setCell ⟨w.heap.size,1,none⟩ (Value.string who.2)).setCell ⟨w.heap.size,2,none⟩ (Value.slice I' is.length ci')).setCell ⟨w.heap.size,3,none⟩ (Value.slice F' fs.length cf')).setCell ⟨w.heap.size,4,none⟩ (Value.int .i64 nx)) = w3 at *
   clear a0 a1 a2 a3 a4 pI2 pF2 oB2 oR2 o1 o2 hnpI hnpF
   have hz3 : w1.heap.size ≤ w3.heap.size:=Nat.le_trans b2.size z3W
   have zk1:=k1.size
   go_wp2_with fail
   go_loopw [6,8,9,23] (fun v _ _ i wr => ∃ (k : Nat) (x : ElBr) (as_ : List ByteArray) (I2 : Option Addr) (c2 : Nat) (F2 : Option Addr) (d2 : Nat) (R : Option Addr) (cR : Nat),k ≤ ls.length ∧ v = .slice R as_.length cR ∧ i = .int .i64 k ∧ Hid ((x,as_) = blsTo (who,is,fs,nx) ls k) ∧ as_.length ≤ k ∧ Hid (brvB x = true) ∧ Own wr w.heap.size 33 5 (some ⟨w.heap.size,0,none⟩) 1 1 (bxC x.1 I2 x.2.1.length c2 F2 x.2.2.1.length d2 x.2.2.2) ∧ OwnE 4 encItem 69 wr w1.heap.size I2 c2 x.2.1 ∧ OwnE 2 encHandle 29 wr w1.heap.size F2 d2 x.2.2.1 ∧ OwnE 1 encStr 9 wr w1.heap.size R cR as_ ∧ Own wr (w.heap.size + 1) 33 5 (some ⟨w.heap.size + 1,0,none⟩) 1 1 zBr' ∧ w1.heap.size ≤ wr.heap.size ∧ Below w.heap.size w wr) (fun _ _ _ i _ => ls.length - (intOf i).toNat)
   case atStart => exact ⟨0,(who,is,fs,nx),[],I',ci',F',cf',none,0,Nat.zero_le _,rfl,rfl,Lib.hid rfl,Nat.le_refl _,HB,oB3,pI3,pF3,Own.nil _ _ _ _ _,oR3,hz3,k3⟩
   case round =>
    clear oB3 pI3 pF3 oR3 hz3 k3 z3W
    obtain ⟨k,x,as_,I2,c2,F2,d2,R,cR,hk,rfl,rfl,hx,hal,hxv,oBr,pIr,pFr,gr,oRr,zr1,kr⟩:=hrel
    have zr:=kr.size
    have HXV:=Lib.hid (brv_of hxv.out)
    have xi8:=fd_len HXV.out.2.1
    have xf10:=(Fv.of HXV.out.2.2.1).1
    by_cases hlt : k < ls.length
    ·obtain ⟨b,off,rfl,hb,hc⟩:=(hA.below (kr.mono hB)).str (by omega)
     have c0:=hc k hlt
     have hzl:=HLZ.out k hlt
     clear hc
     have hx1 : x.1.1.size ≤ maxLen:=by have:=(hv_sizes HXV.out.1).1.2; unfold maxLen; omega
     have hx2 : x.1.2.size ≤ maxLen:=by have:=(hv_sizes HXV.out.1).2.2; unfold maxLen; omega
     have HST:=Lib.hid (blsTo_step hx.out)
     have a0:=(show _ = some (Value.string x.1.1) from oBr.cell rfl (j:=0) (by omega))
     have a1:=(show _ = some (Value.string x.1.2) from oBr.cell rfl (j:=1) (by omega))
     have a2:=(show _ = some (Value.slice I2 x.2.1.length c2) from oBr.cell rfl (j:=2) (by omega))
     have a3:=(show _ = some (Value.slice F2 x.2.2.1.length d2) from oBr.cell rfl (j:=3) (by omega))
     have a4:=(show _ = some (Value.int .i64 x.2.2.2) from oBr.cell rfl (j:=4) (by omega))
     go_wp2_with fail
     refine (implBridgeLine_any (gt ls k) x.1 x.2.1 x.2.2.1 x.2.2.2 I2 c2 F2 d2 wr.heap.size wr (OwnE.rd pIr) (OwnE.rd pFr) (Nat.le_refl _) (by omega) (by omega) (OwnE.capLe pIr) (fd_sz HXV.out.2.1) (fv_sz HXV.out.2.2.1) hx1 hx2 hzl (HT.out.below kr (Nat.le_refl _)) (HE.out.below kr (Nat.le_refl _))).mono ?_
     rw [show blR (x.1,x.2.1,x.2.2.1,x.2.2.2) (gt ls k) = blOf x (gt ls k) from if_pos hxv.out]
     have hrv:=Lib.hid (blOf_valid (line:=gt ls k) hxv.out)
     generalize blOf x (gt ls k) = r at *
     rintro e w5 ⟨I3,c3,F3,d3,rfl,pI5,pF5,b5⟩
     have k5:=kr.trans (b5.mono kr.size)
     have oB5:=Own.below oBr b5
     have oR5:=Own.below oRr b5
     have g5:=Own.below gr b5
     have z5:=b5.size
     clear a0 a1 a2 a3 a4 c0
     have a0:=(show _ = some (Value.string x.1.1) from oB5.cell rfl (j:=0) (by omega))
     have a1:=(show _ = some (Value.string x.1.2) from oB5.cell rfl (j:=1) (by omega))
     have a2:=(show _ = some (Value.slice I2 x.2.1.length c2) from oB5.cell rfl (j:=2) (by omega))
     have a3:=(show _ = some (Value.slice F2 x.2.2.1.length d2) from oB5.cell rfl (j:=3) (by omega))
     have a4:=(show _ = some (Value.int .i64 x.2.2.2) from oB5.cell rfl (j:=4) (by omega))
     have hnpI : ∀ b,blk I3 = some b → b ≠ w.heap.size:=fun b hb => by have:=(Own.lt pI5 hb).1; omega
     have hnpF : ∀ b,blk F3 = some b → b ≠ w.heap.size:=fun b hb => by have:=(Own.lt pF5 hb).1; omega
     have hng : ∀ b,blk R = some b → b ≠ w.heap.size:=fun b hb => by have:=(Own.lt g5 hb).1; omega
     have fz0:=oB5.frozen rfl 0
     have fz1:=oB5.frozen rfl 1
     have fz2:=oB5.frozen rfl 2
     have fz3:=oB5.frozen rfl 3
     have fz4:=oB5.frozen rfl 4
     have s0:=Own.set oB5 rfl (j:=0) (Value.string r.1.1.1)
     have s1:=Own.set s0.1 rfl (j:=1) (Value.string r.1.1.2)
     have s2:=Own.set s1.1 rfl (j:=2) (Value.slice I3 r.1.2.1.length c3)
     have s3:=Own.set s2.1 rfl (j:=3) (Value.slice F3 r.1.2.2.1.length d3)
     have s4:=Own.set s3.1 rfl (j:=4) (Value.int .i64 r.1.2.2.2)
     have pI6:=(own_setN (own_setN (own_setN (own_setN (own_setN pI5 w.heap.size 0 (Value.string r.1.1.1) hnpI) w.heap.size 1 (Value.string r.1.1.2) hnpI) w.heap.size 2 (Value.slice I3 r.1.2.1.length c3) hnpI) w.heap.size 3 (Value.slice F3 r.1.2.2.1.length d3) hnpI) w.heap.size 4 (Value.int .i64 r.1.2.2.2) hnpI)
     have pF6:=(own_setN (own_setN (own_setN (own_setN (own_setN pF5 w.heap.size 0 (Value.string r.1.1.1) hnpF) w.heap.size 1 (Value.string r.1.1.2) hnpF) w.heap.size 2 (Value.slice I3 r.1.2.1.length c3) hnpF) w.heap.size 3 (Value.slice F3 r.1.2.2.1.length d3) hnpF) w.heap.size 4 (Value.int .i64 r.1.2.2.2) hnpF)
     have g6:=(own_setN (own_setN (own_setN (own_setN (own_setN g5 w.heap.size 0 (Value.string r.1.1.1) hng) w.heap.size 1 (Value.string r.1.1.2) hng) w.heap.size 2 (Value.slice I3 r.1.2.1.length c3) hng) w.heap.size 3 (Value.slice F3 r.1.2.2.1.length d3) hng) w.heap.size 4 (Value.int .i64 r.1.2.2.2) hng)
     have k6:=(((((k5.setCell (p:=⟨w.heap.size,0,none⟩) (by first | exact Nat.le_refl _ | (show w.heap.size ≤ _; omega)) (Value.string r.1.1.1)).setCell (p:=⟨w.heap.size,1,none⟩) (by first | exact Nat.le_refl _ | (show w.heap.size ≤ _; omega)) (Value.string r.1.1.2)).setCell (p:=⟨w.heap.size,2,none⟩) (by first | exact Nat.le_refl _ | (show w.heap.size ≤ _; omega)) (Value.slice I3 r.1.2.1.length c3)).setCell (p:=⟨w.heap.size,3,none⟩) (by first | exact Nat.le_refl _ | (show w.heap.size ≤ _; omega)) (Value.slice F3 r.1.2.2.1.length d3)).setCell (p:=⟨w.heap.size,4,none⟩) (by first | exact Nat.le_refl _ | (show w.heap.size ≤ _; omega)) (Value.int .i64 r.1.2.2.2))
     have oR6:=(own_setN (own_setN (own_setN (own_setN (own_setN oR5 w.heap.size 0 (Value.string r.1.1.1) (fun b hb => by simp [blk] at hb; omega)) w.heap.size 1 (Value.string r.1.1.2) (fun b hb => by simp [blk] at hb; omega)) w.heap.size 2 (Value.slice I3 r.1.2.1.length c3) (fun b hb => by simp [blk] at hb; omega)) w.heap.size 3 (Value.slice F3 r.1.2.2.1.length d3) (fun b hb => by simp [blk] at hb; omega)) w.heap.size 4 (Value.int .i64 r.1.2.2.2) (fun b hb => by simp [blk] at hb; omega))
     have oB6 : Own (((((w5.setCell ⟨w.heap.size,0,none⟩ (Value.string r.1.1.1)).setCell ⟨w.heap.size,1,none⟩ (Value.string r.1.1.2)).setCell ⟨w.heap.size,2,none⟩ (Value.slice I3 r.1.2.1.length c3)).setCell ⟨w.heap.size,3,none⟩ (Value.slice F3 r.1.2.2.1.length d3)).setCell ⟨w.heap.size,4,none⟩ (Value.int .i64 r.1.2.2.2)) w.heap.size 33 5 (some ⟨w.heap.size,0,none⟩) 1 1 (bxC r.1.1 I3 r.1.2.1.length c3 F3 r.1.2.2.1.length d3 r.1.2.2.2):=Own.congr s4.1 (fun j hj => by rcases (by omega : j = 0 ∨ j = 1 ∨ j = 2 ∨ j = 3 ∨ j = 4) with rfl | rfl | rfl | rfl | rfl <;> rfl)
     have z6W : w5.heap.size ≤ (((((w5.setCell ⟨w.heap.size,0,none⟩ (Value.string r.1.1.1)).setCell ⟨w.heap.size,1,none⟩ (Value.string r.1.1.2)).setCell ⟨w.heap.size,2,none⟩ (Value.slice I3 r.1.2.1.length c3)).setCell ⟨w.heap.size,3,none⟩ (Value.slice F3 r.1.2.2.1.length d3)).setCell ⟨w.heap.size,4,none⟩ (Value.int .i64 r.1.2.2.2)).heap.size:=by simp
     go_upto_region 10 with fail
     clear s0 s1 s2 s3 s4 fz0 fz1 fz2 fz3 fz4
     generalize (((((w5.setCell ⟨w.heap.size,0,none⟩ (Value.string r.1.1.1)).setCell ⟨w.heap.size,1,none⟩ (Value.string r.1.1.2)).setCell ⟨w.heap.size,2,none⟩ (Value.slice I3 r.1.2.1.length c3)).setCell ⟨w.heap.size,3,none⟩ (Value.slice F3 r.1.2.2.1.length d3)).setCell ⟨w.heap.size,4,none⟩ (Value.int .i64 r.1.2.2.2)) = w6 at *
     clear a0 a1 a2 a3 a4 hnpI hnpF hng oB5 oR5 pI5 pF5 g5
     have z61 : w1.heap.size ≤ w6.heap.size:=by omega
     go_wp2_with (at_builtin; refine wpList_app rfl (.tmp 33) (.tmp 35) _ rfl w1.heap.size 9 _ 1 16 Tryz.underlying51 info_String rfl (by omega) R (some ⟨w6.heap.size,0,none⟩) as_.length cR 1 1 (w6.heap.size + 1) (cE 1 encStr as_) (encStr r.2) rfl rfl (Own.below g6 ((Below.refl _ _).alloc (Nat.le_refl _) _)) (rd_elem _ _ _ _ (fun j hj => by rcases (by omega : j = 0) with rfl; rfl)) (fun _ _ => encStr_one _ _) (by simp only [maxLen]; omega) (by omega) (by first | omega | (simp; omega)) ?_; intro R7 cR7 w7 o7 g7)
     go_roundw
     case rel =>
      have bA : ∀ o,Below w6.heap.size w6 (w6.alloc o):=fun o => (Below.refl _ _).alloc (Nat.le_refl _) o
      have b67:=((Below.refl w1.heap.size w6).alloc z61 _).trans (grown_below g7 (fun b hb => (Own.lt g6 hb).1) (by first | omega | (simp; omega)))
      refine ⟨k + 1,r.1,as_ ++ [r.2],I3,c3,F3,d3,R7,cR7,by omega,by rw [List.length_append]; rfl,by go_num,HST,by rw [List.length_append]; simp; omega,hrv,Own.kept (Own.below oB6 (bA _)) g7 (kept_of (own_ne oB6 g6 (by decide))),Own.more (Own.kept (Own.below pI6 (bA _)) g7 (kept_of (own_ne pI6 g6 (by decide)))) (by omega),Own.more (Own.kept (Own.below pF6 (bA _)) g7 (kept_of (own_ne pF6 g6 (by decide)))) (by omega),OwnE.snoc (by omega) o7,Own.kept (Own.below oR6 (bA _)) g7 (kept_of (own_ne oR6 g6 (by decide))),Nat.le_trans z61 b67.size,k6.trans (b67.mono (by omega))⟩
     case measure => simp [intOf]; omega
    ·obtain rfl : k = ls.length:=by omega
     have HQ : Hid (blsR (who,is,fs,nx) ls = (x,as_)):=Lib.hid (HBL.out.trans hx.out.symm)
     have hN1 : ∀ b,blk I2 = some b → b ≠ w.heap.size + 1:=fun b hb => by have:=(Own.lt pIr hb).1; omega
     have hN2 : ∀ b,blk F2 = some b → b ≠ w.heap.size + 1:=fun b hb => by have:=(Own.lt pFr hb).1; omega
     have hN3 : ∀ b,blk R = some b → b ≠ w.heap.size + 1:=fun b hb => by have:=(Own.lt gr hb).1; omega
     have a0:=(show _ = some (Value.string x.1.1) from oBr.cell rfl (j:=0) (by omega))
     have a1:=(show _ = some (Value.string x.1.2) from oBr.cell rfl (j:=1) (by omega))
     have a2:=(show _ = some (Value.slice I2 x.2.1.length c2) from oBr.cell rfl (j:=2) (by omega))
     have a3:=(show _ = some (Value.slice F2 x.2.2.1.length d2) from oBr.cell rfl (j:=3) (by omega))
     have a4:=(show _ = some (Value.int .i64 x.2.2.2) from oBr.cell rfl (j:=4) (by omega))
     have r0:=(show _ = some (Value.string { data:=#[] }) from oRr.cell rfl (j:=0) (by omega))
     have rf0:=oRr.frozen rfl 0
     have r1:=(show _ = some (Value.string { data:=#[] }) from oRr.cell rfl (j:=1) (by omega))
     have rf1:=oRr.frozen rfl 1
     have r2:=(show _ = some (Value.slice none 0 0) from oRr.cell rfl (j:=2) (by omega))
     have rf2:=oRr.frozen rfl 2
     have r3:=(show _ = some (Value.slice none 0 0) from oRr.cell rfl (j:=3) (by omega))
     have rf3:=oRr.frozen rfl 3
     have r4:=(show _ = some (Value.int .i64 0) from oRr.cell rfl (j:=4) (by omega))
     have rf4:=oRr.frozen rfl 4
     go_wp2_with fail
     refine bodyPost_ret (v:=.tuple #[.agg #[Value.string x.1.1,Value.string x.1.2,Value.slice I2 x.2.1.length c2,Value.slice F2 x.2.2.1.length d2,Value.int .i64 x.2.2.2],.slice R as_.length cR]) ?_ rfl ?_
     ·simp [results,Tryz.results24,go_sem,r0,r1,r2,r3,r4]
     ·rw [HQ.out]
      exact ⟨I2,c2,F2,d2,R,cR,rfl,Own.more (own_setN (own_setN (own_setN (own_setN (own_setN pIr (w.heap.size + 1) 0 (Value.string x.1.1) hN1) (w.heap.size + 1) 1 (Value.string x.1.2) hN1) (w.heap.size + 1) 2 (Value.slice I2 x.2.1.length c2) hN1) (w.heap.size + 1) 3 (Value.slice F2 x.2.2.1.length d2) hN1) (w.heap.size + 1) 4 (Value.int .i64 x.2.2.2) hN1) (by omega),Own.more (own_setN (own_setN (own_setN (own_setN (own_setN pFr (w.heap.size + 1) 0 (Value.string x.1.1) hN2) (w.heap.size + 1) 1 (Value.string x.1.2) hN2) (w.heap.size + 1) 2 (Value.slice I2 x.2.1.length c2) hN2) (w.heap.size + 1) 3 (Value.slice F2 x.2.2.1.length d2) hN2) (w.heap.size + 1) 4 (Value.int .i64 x.2.2.2) hN2) (by omega),Own.more (own_setN (own_setN (own_setN (own_setN (own_setN gr (w.heap.size + 1) 0 (Value.string x.1.1) hN3) (w.heap.size + 1) 1 (Value.string x.1.2) hN3) (w.heap.size + 1) 2 (Value.slice I2 x.2.1.length c2) hN3) (w.heap.size + 1) 3 (Value.slice F2 x.2.2.1.length d2) hN3) (w.heap.size + 1) 4 (Value.int .i64 x.2.2.2) hN3) (by omega),(((((kr.setCell (p:=⟨w.heap.size + 1,0,none⟩) (by show w.heap.size ≤ w.heap.size + 1; omega) (Value.string x.1.1)).setCell (p:=⟨w.heap.size + 1,1,none⟩) (by show w.heap.size ≤ w.heap.size + 1; omega) (Value.string x.1.2)).setCell (p:=⟨w.heap.size + 1,2,none⟩) (by show w.heap.size ≤ w.heap.size + 1; omega) (Value.slice I2 x.2.1.length c2)).setCell (p:=⟨w.heap.size + 1,3,none⟩) (by show w.heap.size ≤ w.heap.size + 1; omega) (Value.slice F2 x.2.2.1.length d2)).setCell (p:=⟨w.heap.size + 1,4,none⟩) (by show w.heap.size ≤ w.heap.size + 1; omega) (Value.int .i64 x.2.2.2))⟩
  ·have g30 : decide ((30 : Int) < (ls.length : Int)) = true:=decide_eq_true (by omega)
   have HQ : Hid (blsR (who,is,fs,nx) ls = (zBr0,[])):=Lib.hid (if_neg (fun h => h30 h.2))
   clear hv
   have r0:=(show _ = some (Value.string { data:=#[] }) from oR1.cell rfl (j:=0) (by omega))
   have rf0:=oR1.frozen rfl 0
   have r1:=(show _ = some (Value.string { data:=#[] }) from oR1.cell rfl (j:=1) (by omega))
   have rf1:=oR1.frozen rfl 1
   have r2:=(show _ = some (Value.slice none 0 0) from oR1.cell rfl (j:=2) (by omega))
   have rf2:=oR1.frozen rfl 2
   have r3:=(show _ = some (Value.slice none 0 0) from oR1.cell rfl (j:=3) (by omega))
   have rf3:=oR1.frozen rfl 3
   have r4:=(show _ = some (Value.int .i64 0) from oR1.cell rfl (j:=4) (by omega))
   have rf4:=oR1.frozen rfl 4
   go_wp2_with fail
   refine bodyPost_ret (v:=.tuple #[.agg #[Value.string { data:=#[] },Value.string { data:=#[] },Value.slice none 0 0,Value.slice none 0 0,Value.int .i64 0],.slice none 0 0]) ?_ rfl ?_
   ·simp [results,Tryz.results24,go_sem,r0,r1,r2,r3,r4]
   ·rw [HQ.out]
    exact ⟨none,0,none,0,none,0,rfl,Own.nil _ _ _ _ _,Own.nil _ _ _ _ _,Own.nil _ _ _ _ _,(by first | exact k1 | exact (((((k1.setCell (p:=⟨w.heap.size + 1,0,none⟩) (by show w.heap.size ≤ w.heap.size + 1; omega) (Value.string { data:=#[] })).setCell (p:=⟨w.heap.size + 1,1,none⟩) (by show w.heap.size ≤ w.heap.size + 1; omega) (Value.string { data:=#[] })).setCell (p:=⟨w.heap.size + 1,2,none⟩) (by show w.heap.size ≤ w.heap.size + 1; omega) (Value.slice none 0 0)).setCell (p:=⟨w.heap.size + 1,3,none⟩) (by show w.heap.size ≤ w.heap.size + 1; omega) (Value.slice none 0 0)).setCell (p:=⟨w.heap.size + 1,4,none⟩) (by show w.heap.size ≤ w.heap.size + 1; omega) (Value.int .i64 0)))⟩
end Go.Proofs.YtfnmlffpnmmcdaaGreatDoor
namespace Go.Proofs.YtfnmlffpnmmcdaaGreatDoor
set_option maxRecDepth 100000
open Go.RowKit
def allAncX (l : List Oper) (p : Nat) : Nat → List Nat → Bool
 | 0,_ => true
 | j + 1,S => if j = p then allAncX l p j S else S.contains j && allAncX l p j (match l[j]? with | some o => edgesL o ++ S | none => S)
theorem allAncX_sound {l : List Oper} {p : Nat} {q : Nat → Prop} (hdc : ∀ i o,l[i]? = some o → q i → ∀ j ∈ edgesL o,q j) : ∀ {n : Nat} {S : List Nat},allAncX l p n S = true → (∀ j ∈ S,q j) → ∀ j,j < n → j ≠ p → q j
 | 0,_,_,_,j,hj,_ => absurd hj (by omega)
 | n + 1,S,h,hS,j,hj,hjp => by
  rw [allAncX] at h
  split at h
  ·next hn =>
   rcases Nat.lt_succ_iff_lt_or_eq.1 hj with h1 | rfl
   ·exact allAncX_sound hdc h hS j h1 hjp
   ·exact absurd hn hjp
  ·rw [Bool.and_eq_true] at h
   have hn : q n:=hS n (List.contains_iff_mem.1 h.1)
   rcases Nat.lt_succ_iff_lt_or_eq.1 hj with h1 | rfl
   ·refine allAncX_sound hdc h.2 (fun i hi => ?_) j h1 hjp
    split at hi
    ·next o ho =>
     rcases List.mem_append.1 hi with h2 | h2
     ·exact hdc _ _ ho hn _ h2
     ·exact hS _ h2
    ·exact hS _ hi
   ·exact hn
def lateB (l T : List Oper) (p : Nat) : Bool :=
 l.all (fun o => o.guard.isNone) && decide (dstsL l).Nodup &&
 (List.range l.length).all (fun i => match l[i]? with | some o => (edgesL o).all (fun j => decide (j < i)) | none => true) &&
 (List.range T.length).all (fun i => match T[i]? with | some o => (edgesL o).all (fun j => decide (j < l.length + i)) && (i == 0 || (edgesL o).contains (l.length + i - 1)) | none => true) &&
 (match T with | t0 :: t1 :: _ => t0.guard.isNone && t0.dst.isNone && allAncX l p l.length (edgesL t0) && (edgesL t1).contains p | _ => false)
theorem act_ext {a b : Act} (h1 : ∀ t : Nat,a.tmps[t]? = b.tmps[t]?) (h2 : a.defers = b.defers) : a = b:=by
 have ht : a.tmps = b.tmps:=Array.ext_getElem? h1
 cases a; cases b; simp at ht h2; simp [ht,h2]
theorem put_back (a : Act) (d : Nat) (x : Value) : (a.put (some d) x).put (some d) (a.tmps.getD d undef) = a:=by
 refine act_ext (fun t => ?_) (by rw [defers_put,defers_put])
 rw [tmps_put,tmps_put,size_put]
 split
 ·next h =>
  obtain ⟨h1,h2⟩:=h
  injection h1 with h1
  subst h1
  simp [h2]
 ·next h => rfl
section
variable {P : Program} {R : World → World → Prop} {G : Nat → World → Prop} {K0 : Nat} {l : List Oper} {specs : List Spec} {cs : List Nat} {a : Act} {w0 : World}
theorem unl_tail {n m : Nat} {listed : Array Bool} (h : ∀ j,n ≤ j → j < n + m → listed.getD j true = false) : m ≤ unl (n + m) listed:=by
 have key : ∀ k,k ≤ m → k ≤ unl (n + k) listed:=by
  intro k
  induction k with
  | zero => intro _; exact Nat.zero_le _
  | succ k ihk =>
   intro hk
   have h2:=ihk (by omega)
   unfold unl at h2 ⊢
   rw [show n + (k + 1) = (n + k) + 1 by omega,List.range_succ,List.countP_append,List.countP_cons,List.countP_nil,h (n + k) (by omega) (by omega)]
   simp at h2 ⊢; omega
 exact key _ (Nat.le_refl _)
theorem wp_late_any {T : List Oper} {Q : Exit → Act → World → Prop} {p dp : Nat} {op : Oper} {sp : Spec} {x : Value} (hB : lateB l T p = true) (hds : ∀ o ∈ l,∃ d,o.dst = some d ∧ d < a.tmps.size) (hlen : specs.length = l.length) (hlc : cs.length = l.length) (htrans : ∀ a b c,R a b → R b c → R a c)
    (hstab : ∀ s ∈ specs,∀ v w w',R w w' → s v w → s v w')
    (hsteps : looseSteps (StepOK P R G K0 (K0 + cs.sum) l specs a w0) l specs cs)
    (hop : l[p]? = some op) (hdp : op.dst = some dp) (hsp : specs[p]? = some sp) (hcp : cs[p]? = some 0) (hsx : ∀ w,sp x w)
    (hpure : ∀ a1 w1 w2,depsL l specs a1 w1 op.after.toList → (execOp a1.eval op).run P w2 = .ok (.value x) w2)
    (hend : ∀ w',R w0 w' → G (K0 + cs.sum) w' → looseAll w' (fun a' => ∃ w1,(∀ t0 v,T.head? = some t0 → (execOp (a'.put (some dp) v).eval t0).run P w' = .ok .skip w1) ∧ wpList P (l ++ T).toArray Q (T.drop 1) a' w1) l specs a) :
    ∀ fuel listed a' w',LInv R G K0 l T.length specs cs a w0 listed a' w' → unl (l.length + T.length) listed ≤ fuel → wpAny P .any (l ++ T).toArray Q fuel listed a' w':=by
 simp only [lateB,Bool.and_eq_true,List.all_eq_true,decide_eq_true_eq] at hB
 obtain ⟨⟨⟨⟨hg1,hnd⟩,hlex⟩,hT0⟩,hanc⟩:=hB
 have hT : ∀ i o,T[i]? = some o → (∀ j ∈ edgesL o,j < l.length + i) ∧ (i = 0 ∨ l.length + i - 1 ∈ edgesL o):=fun i o ho => by
  have h1:=hT0 i (List.mem_range.2 (List.getElem?_eq_some_iff.1 ho).1)
  rw [ho] at h1
  simp only [Bool.and_eq_true,List.all_eq_true,decide_eq_true_eq,Bool.or_eq_true,beq_iff_eq,List.contains_iff_mem] at h1
  exact h1
 obtain ⟨t0,t1,ts,rfl⟩ : ∃ t0 t1 ts,T = t0 :: t1 :: ts:=by
  match T,hanc with
  | t0 :: t1 :: ts,_ => exact ⟨t0,t1,ts,rfl⟩
  | [],h => cases h
  | [_],h => cases h
 simp only [Bool.and_eq_true,List.contains_iff_mem] at hanc
 obtain ⟨⟨⟨hg0,hd0⟩,hax⟩,h1p⟩:=hanc
 have hg0 : t0.guard = none:=by simpa using hg0
 have hd0 : t0.dst = none:=by simpa using hd0
 have hpl : p < l.length:=(List.getElem?_eq_some_iff.1 hop).1
 have hw0 : ∀ a : Act,Region.wanted t0 (yielded (l ++ t0 :: t1 :: ts).toArray a.tmps) = true:=fun a => by simp [Region.wanted,hg0]
 have hgp : op.guard = none:=by have:=hg1 op (List.mem_of_getElem? hop); simpa using this
 have hwp : ∀ a : Act,Region.wanted op (yielded (l ++ t0 :: t1 :: ts).toArray a.tmps) = true:=fun a => by simp [Region.wanted,hgp]
 have hdpl : dp < a.tmps.size:=by
  obtain ⟨d,h1,h2⟩:=hds op (List.mem_of_getElem? hop)
  rw [hdp] at h1; injection h1 with h1; rw [h1]; exact h2
 intro fuel
 induction fuel with
 | zero =>
  intro listed a' w' hI hu
  exfalso
  have : 0 < unl (l.length + (t0 :: t1 :: ts).length) listed:=by
   unfold unl
   rw [List.countP_pos_iff]
   exact ⟨l.length,by simp,by rw [hI.fn _ (Nat.le_refl _) (by simp)]; rfl⟩
  omega
 | succ fuel ih =>
  intro listed a' w' hI hu
  by_cases hall : ∀ j,j < l.length → listed.getD j true = true
  ·have hg:=hI.g
   rw [costL_all (fun j _ h2 => by rw [getD_both (by rw [hI.sz]; omega) false true]; exact hall j (by omega))] at hg
   obtain ⟨w1,hrun,hts⟩:=looseAll_use l specs a hlen hI.ts hI.df hI.kp (fun j o s h1 h2 => hI.sp j o s h1 h2 (by
    have hj:=(List.getElem?_eq_some_iff.1 h1).1
    rw [getD_both (by rw [hI.sz]; omega) false true]; exact hall j hj)) (hend w' hI.r hg)
   have hr:=hrun t0 ((a'.put (some dp) undef).tmps.getD dp undef) rfl
   have hr2 : (execOp a'.eval t0).run P w' = .ok .skip w1:=by
    have h:=hrun t0 (a'.tmps.getD dp undef) rfl
    have e : a'.put (some dp) (a'.tmps.getD dp undef) = a':=by
     have:=put_back a' dp (a'.tmps.getD dp undef)
     refine act_ext (fun t => ?_) (defers_put ..)
     rw [tmps_put]
     split
     ·next h =>
      obtain ⟨h1,h2⟩:=h
      injection h1 with h1
      subst h1
      simp [h2]
     ·rfl
    rwa [e] at h
   have hK : wpList P (l ++ t0 :: t1 :: ts).toArray Q (t0 :: t1 :: ts) a' w':=by
    rw [wpList,if_pos (hw0 a')]
    refine .inl ?_
    unfold Oper.wp
    rw [hr2]
    show wpList P _ Q (t1 :: ts) (a'.put t0.dst undef) w1
    rw [hd0]
    exact hts
   refine tail_seq hT (t0 :: t1 :: ts).length 0 (by omega) (fuel + 1) listed a' w' ?_ hI.sz (fun j hj => hall j (by omega)) (fun j h1 h2 => hI.fn j (by omega) h2) hK
   exact Nat.le_trans (unl_tail fun j h1 h2 => hI.fn j h1 h2) hu
  ·refine ⟨fun hr => ?_,fun i hi => ?_⟩
   ·exfalso
    -- the least one that has not come up may come up
    have hex : ∃ m,m < l.length ∧ listed.getD m true = false ∧ ∀ j,j < m → listed.getD j true = true:=by
     have : ∀ n,n < l.length → listed.getD n true = false → ∃ m,m < l.length ∧ listed.getD m true = false ∧ ∀ j,j < m → listed.getD j true = true:=by
      intro n
      induction n using Nat.strongRecOn with
      | _ n ihn =>
       intro hn hf
       by_cases h : ∃ j,j < n ∧ listed.getD j true = false
       ·obtain ⟨j,hj,hjf⟩:=h
        exact ihn j hj (by omega) hjf
       ·exact ⟨n,hn,hf,fun j hj => by
           cases hq : listed.getD j true
           ·exact absurd ⟨j,hj,hq⟩ h
           ·rfl⟩
     apply Decidable.byContradiction
     intro hno
     exact hall fun j hj => by
      cases hq : listed.getD j true
      ·exact absurd (this j hj hq) hno
      ·rfl
    obtain ⟨m,hm,hmf,hml⟩:=hex
    have hmem : m ∈ Region.ready .any (l ++ t0 :: t1 :: ts).toArray listed:=by
     refine mem_ready.2 ⟨hmf,l[m],by rw [ops_left hm,List.getElem?_eq_getElem hm],fun e he hb => ?_⟩
     have h1:=hlex m (List.mem_range.2 hm)
     rw [List.getElem?_eq_getElem hm] at h1
     have h3 : e.on < m:=by simpa using (List.all_eq_true.1 h1) _ (edges_mem he hb)
     rw [getD_both (by rw [hI.sz]; omega) false true]; exact hml _ h3
    rw [hr] at hmem
    cases hmem
   ·obtain ⟨hif,o,ho,haft⟩:=mem_ready.1 hi
    rcases Nat.lt_or_ge i l.length with hilt | hige
    ·skip
     rw [ops_left hilt] at ho
     have hlo:=ho
     obtain ⟨s,hs⟩ : ∃ s,specs[i]? = some s:=⟨_,List.getElem?_eq_getElem (by omega)⟩
     obtain ⟨c,hc⟩ : ∃ c,cs[i]? = some c:=⟨_,List.getElem?_eq_getElem (by omega)⟩
     have hst:=looseSteps_at hsteps hlo hs hc
     have hgn : o.guard = none:=by have:=hg1 o (List.mem_of_getElem? hlo); simpa using this
     have hset:=costL_set (cs:=cs) (i:=0) (j:=i) (c:=c) (f:=fun t => listed.getD t false) (g:=fun t => (listed.setIfInBounds i true).getD t false) (Nat.zero_le _) (by simpa using hc)
      (by show listed.getD i false = false; rw [getD_both (getD_true_of hif) false true]; exact hif) (getD_set_eq (getD_true_of hif) _) (fun t ht => getD_set_ne false (Ne.symm ht))
     have hle : K0 + costL cs 0 (fun t => listed.getD t false) + c ≤ K0 + cs.sum:=by
      have:=costL_le (cs:=cs) (i:=0) (f:=fun t => (listed.setIfInBounds i true).getD t false)
      rw [hset] at this; omega
     have hrun:=hst _ a' w' (Nat.le_add_right _ _) hle hI.r hI.g (fun t ht => by
      have:=hI.kp t ht
      simp only [Array.getD_eq_getD_getElem?,this]) (depsL_of fun e he hb => by
      unfold depHold
      split
      ·next o' s' h1 h2 => exact hI.sp _ _ _ h1 h2 (haft e (by simpa using he) hb)
      ·trivial)
     unfold wpOp
     rw [ops_left hilt,ho]
     have hw : Region.wanted o (yielded (l ++ t0 :: t1 :: ts).toArray a'.tmps) = true:=by simp [Region.wanted,hgn]
     simp only [hw,if_true]
     refine .inl (wp_of_loose hrun fun v w'' hR hG hsv => ?_)
     refine ih _ _ _ ⟨by simp [hI.sz],htrans _ _ _ hI.r hR,?_,by rw [defers_put]; exact hI.df,by rw [size_put]; exact hI.ts,fun t ht => ?_,fun j o' s' h1 h2 h3 => ?_,fun j h1 h2 => ?_,fun j o' h1 h2 q hq => ?_⟩ (by have:=unl_set (n:=l.length + (t0 :: t1 :: ts).length) (by omega) hif; omega)
     ·have hset' : costL cs 0 (fun t => (listed.setIfInBounds i true).getD t false) = costL cs 0 (fun t => listed.getD t false) + c:=hset
      rw [hset',← Nat.add_assoc]; exact hG
     ·rw [tmps_put,if_neg]
      ·exact hI.kp t ht
      ·rintro ⟨hd,_⟩
       have : t ∈ dstsL l:=List.mem_filterMap.2 ⟨o,List.mem_of_getElem? hlo,hd⟩
       rw [List.contains_iff_mem.2 this] at ht; cases ht
     ·by_cases hji : j = i
      ·subst hji
       obtain rfl : o' = o:=by rw [h1] at hlo; exact Option.some.inj hlo
       obtain rfl : s' = s:=by rw [h2] at hs; exact Option.some.inj hs
       obtain ⟨d,hd,hdl⟩:=hds o' (List.mem_of_getElem? h1)
       rw [hd,slotv_put_same (by rw [hI.ts]; exact hdl)]
       exact hsv
      ·obtain ⟨d,hd,_⟩:=hds o' (List.mem_of_getElem? h1)
       obtain ⟨d2,hd2,_⟩:=hds o (List.mem_of_getElem? hlo)
       have hne : d ≠ d2:=fun e => hji (nodup_get hnd h1 hlo hd (by rw [hd2,e]))
       rw [getD_set_ne false (Ne.symm hji)] at h3
       have h4:=hI.sp j o' s' h1 h2 h3
       rw [hd] at h4 ⊢
       rw [hd2,slotv_put_ne hne]
       exact hstab s' (List.mem_of_getElem? h2) _ _ _ hR h4
     ·rw [getD_set_ne true (by omega)]; exact hI.fn j h1 h2
     ·have hql : q < l.length:=by
         have hj:=(List.getElem?_eq_some_iff.1 h1).1
         have h5:=hlex j (List.mem_range.2 hj)
         rw [h1] at h5
         have h6 : q < j:=by simpa using (List.all_eq_true.1 h5) _ hq
         omega
      by_cases hqi : q = i
      ·subst hqi; exact getD_set_eq (getD_true_of hif) _
      ·rw [getD_set_ne true (Ne.symm hqi)]
       by_cases hji : j = i
       ·subst hji
        obtain rfl : o' = o:=by rw [h1] at hlo; exact Option.some.inj hlo
        obtain ⟨e,he,hb,rfl⟩:=mem_edges hq
        have:=haft e he hb
        rwa [getD_both (by rw [hI.sz]; omega) false true] at this
       ·rw [getD_set_ne true (Ne.symm hji)] at h2
        exact hI.dc j o' h1 h2 q hq
    ·-- the store comes up ahead of p
     have hi2 : i < l.length + (t0 :: t1 :: ts).length:=by have:=getD_true_of hif; rw [hI.sz] at this; exact this
     obtain ⟨d,rfl⟩ : ∃ d,i = l.length + d:=⟨i - l.length,by omega⟩
     rw [ops_right] at ho
     have hd : d = 0:=by
      rcases (hT d o ho).2 with h0 | h0
      ·exact h0
      ·rcases Nat.eq_zero_or_pos d with q0 | q0
       ·exact q0
       ·obtain ⟨e,he,hb,heq⟩:=mem_edges h0
        have h1:=haft e he hb
        rw [heq,getD_both (by rw [hI.sz]; omega) false true,hI.fn _ (by omega) (by omega)] at h1
        cases h1
     subst hd
     obtain rfl : t0 = o:=by simpa using ho
     have hbut : ∀ j,j < l.length → j ≠ p → listed.getD j true = true:=allAncX_sound (q:=fun j => listed.getD j true = true) hI.dc hax (fun j hj => by
      obtain ⟨e,he,hb,rfl⟩:=mem_edges hj
      have h1:=haft e he hb
      have h2:=(hT 0 t0 rfl).1 _ hj
      rwa [getD_both (by rw [hI.sz]; simp at h2 ⊢; omega) false true] at h1)
     have hpf : listed.getD p true = false:=by
      cases hq : listed.getD p true
      ·rfl
      ·exact absurd (fun j hj => by
          by_cases hjp : j = p
          ·subst hjp; exact hq
          ·exact hbut j hj hjp) hall
     have hps:=getD_true_of hpf
     have hg:=hI.g
     have hset:=costL_set (cs:=cs) (i:=0) (j:=p) (c:=0) (f:=fun t => listed.getD t false) (g:=fun t => (listed.setIfInBounds p true).getD t false) (Nat.zero_le _) (by simpa using hcp)
      (by show listed.getD p false = false; rw [getD_both hps false true]; exact hpf) (getD_set_eq hps _) (fun t ht => getD_set_ne false (Ne.symm ht))
     rw [costL_all (f:=fun t => (listed.setIfInBounds p true).getD t false) (fun j _ h2 => by
      show (listed.setIfInBounds p true).getD j false = true
      by_cases hjp : j = p
      ·subst hjp; exact getD_set_eq hps _
      ·rw [getD_set_ne false (Ne.symm hjp),getD_both (by rw [hI.sz]; omega) false true]; exact hbut j (by omega) hjp)] at hset
     rw [show costL cs 0 (fun i => listed.getD i false) = cs.sum from hset.symm] at hg
     have hdeps : depsL l specs a' w' op.after.toList:=depsL_of fun e he hb => by
      unfold depHold
      split
      ·next o' s' h1 h2 =>
       have h3:=hlex p (List.mem_range.2 hpl)
       rw [hop] at h3
       have h4 : e.on < p:=by simpa using (List.all_eq_true.1 h3) _ (edges_mem (by simpa using he) hb)
       exact hI.sp _ _ _ h1 h2 (by rw [getD_both (by rw [hI.sz]; omega) false true]; exact hbut _ (by omega) (by omega))
      ·trivial
     have hdp2 : dp < a'.tmps.size:=by rw [hI.ts]; exact hdpl
     obtain ⟨w1,hrun,hts⟩:=looseAll_use (a':=a'.put (some dp) x) l specs a hlen (by rw [size_put]; exact hI.ts) (by rw [defers_put]; exact hI.df) (fun t ht => by
      rw [tmps_put,if_neg]
      ·exact hI.kp t ht
      ·rintro ⟨hd,_⟩
       have : t ∈ dstsL l:=List.mem_filterMap.2 ⟨op,List.mem_of_getElem? hop,by rw [hdp]; exact hd⟩
       rw [List.contains_iff_mem.2 this] at ht; cases ht) (fun j o' s' h1 h2 => by
      by_cases hjp : j = p
      ·subst hjp
       obtain rfl : o' = op:=by rw [hop] at h1; exact (Option.some.inj h1).symm
       obtain rfl : s' = sp:=by rw [hsp] at h2; exact (Option.some.inj h2).symm
       rw [hdp,slotv_put_same hdp2]
       exact hsx _
      ·obtain ⟨d,hd,_⟩:=hds o' (List.mem_of_getElem? h1)
       have hj:=(List.getElem?_eq_some_iff.1 h1).1
       have hne : d ≠ dp:=fun e => hjp (nodup_get hnd h1 hop hd (by rw [hdp,e]))
       have h4:=hI.sp j o' s' h1 h2 (by rw [getD_both (by rw [hI.sz]; omega) false true]; exact hbut j hj hjp)
       rw [hd] at h4 ⊢
       rw [slotv_put_ne hne]
       exact h4) (hend w' hI.r hg)
     have hr2:=hrun t0 (a'.tmps.getD dp undef) rfl
     rw [put_back] at hr2
     have u1:=unl_set (n:=l.length + (t0 :: t1 :: ts).length) (by omega) hif
     unfold wpOp
     rw [ops_right]
     show (if Region.wanted t0 (yielded (l ++ t0 :: t1 :: ts).toArray a'.tmps) = true then _ else _)
     rw [if_pos (hw0 a')]
     refine .inl ?_
     unfold Oper.wp
     rw [hr2]
     show wpAny P .any (l ++ t0 :: t1 :: ts).toArray Q fuel (listed.setIfInBounds (l.length + 0) true) (a'.put t0.dst undef) w1
     rw [hd0]
     show wpAny P .any (l ++ t0 :: t1 :: ts).toArray Q fuel (listed.setIfInBounds (l.length + 0) true) a' w1
     have hl1 : (listed.setIfInBounds (l.length + 0) true).getD p true = false:=by rw [getD_set_ne true (by omega)]; exact hpf
     have u2:=unl_set (n:=l.length + (t0 :: t1 :: ts).length) (i:=p) (listed:=listed.setIfInBounds (l.length + 0) true) (by omega) hl1
     have hszL : (listed.setIfInBounds (l.length + 0) true).size = l.length + (t0 :: t1 :: ts).length:=by simp [hI.sz]
     generalize hL : listed.setIfInBounds (l.length + 0) true = L1 at *
     have hLt : ∀ j,j < l.length → j ≠ p → L1.getD j true = true:=fun j hj hjp => by rw [← hL,getD_set_ne true (by omega)]; exact hbut j hj hjp
     have hLs : L1.getD l.length true = true:=by rw [← hL]; exact getD_set_eq (getD_true_of hif) _
     have hLf : ∀ j,l.length + 1 ≤ j → j < l.length + (t0 :: t1 :: ts).length → L1.getD j true = false:=fun j h1 h2 => by rw [← hL,getD_set_ne true (by omega)]; exact hI.fn j (by omega) h2
     cases fuel with
     | zero => omega
     | succ fuel =>
      have hopA : (l ++ t0 :: t1 :: ts).toArray[p]? = some op:=by rw [ops_left hpl,hop]
      have hmem : p ∈ Region.ready .any (l ++ t0 :: t1 :: ts).toArray L1:=mem_ready.2 ⟨hl1,op,hopA,fun e he hb => by
       have h3:=hlex p (List.mem_range.2 hpl)
       rw [hop] at h3
       have h4 : e.on < p:=by simpa using (List.all_eq_true.1 h3) _ (edges_mem he hb)
       rw [getD_both (by omega) false true]; exact hLt _ (by omega) (by omega)⟩
      refine ⟨fun hr => (by rw [hr] at hmem; cases hmem),fun i hi => ?_⟩
      obtain ⟨hif2,o2,ho2,haft2⟩:=mem_ready.1 hi
      have hip : i = p:=by
       have hib:=getD_true_of hif2
       rcases Nat.lt_or_ge i l.length with q | q
       ·by_cases hjp : i = p
        ·exact hjp
        ·rw [hLt i q hjp] at hif2; cases hif2
       ·exfalso
        obtain ⟨d,rfl⟩ : ∃ d,i = l.length + d:=⟨i - l.length,by omega⟩
        rw [ops_right] at ho2
        rcases Nat.eq_zero_or_pos d with z | z
        ·subst z; rw [Nat.add_zero,hLs] at hif2; cases hif2
        ·by_cases h1 : d = 1
         ·subst h1
          obtain rfl : t1 = o2:=by simpa using ho2
          obtain ⟨e,he,hb,heq⟩:=mem_edges h1p
          have h5:=haft2 e he hb
          rw [heq,getD_both (by omega) false true,hl1] at h5
          cases h5
         ·rcases (hT d o2 ho2).2 with h0 | h0
          ·omega
          ·obtain ⟨e,he,hb,heq⟩:=mem_edges h0
           have h5:=haft2 e he hb
           rw [heq,getD_both (by omega) false true,hLf _ (by omega) (by omega)] at h5
           cases h5
      subst hip
      unfold wpOp
      rw [hopA]
      show (if Region.wanted op (yielded (l ++ t0 :: t1 :: ts).toArray a'.tmps) = true then _ else _)
      rw [if_pos (hwp a')]
      refine .inl ?_
      unfold Oper.wp
      rw [hpure a' w' w1 hdeps]
      show wpAny P .any (l ++ t0 :: t1 :: ts).toArray Q fuel (L1.setIfInBounds i true) (a'.put op.dst x) w1
      rw [hdp]
      have hpb : i < L1.size:=by omega
      have hfin : ∀ j,l.length + 1 ≤ j → j < l.length + (t0 :: t1 :: ts).length → (L1.setIfInBounds i true).getD j true = false:=fun j h1 h2 => by rw [getD_set_ne true (by omega)]; exact hLf j h1 h2
      refine tail_seq hT (t1 :: ts).length 1 (by simp; omega) fuel _ _ w1 ?_ (by simp [hszL]) (fun j hj => ?_) hfin hts
      ·have h6 : (t1 :: ts).length ≤ unl (l.length + 1 + (t1 :: ts).length) (L1.setIfInBounds i true):=unl_tail fun j h1 h2 => hfin j h1 (by simp at h2 ⊢; omega)
       rw [show l.length + 1 + (t1 :: ts).length = l.length + (t0 :: t1 :: ts).length by simp; omega] at h6
       omega
      ·by_cases hjp : j = i
       ·subst hjp; exact getD_set_eq hpb _
       ·rw [getD_set_ne true (Ne.symm hjp)]
        by_cases hjl : j = l.length
        ·subst hjl; exact hLs
        ·exact hLt j (by omega) hjp
end
theorem wp_region_late {P : Program} {R : World → World → Prop} {G : Nat → World → Prop} (n K0 p dp : Nat) (x : Value) {L : List Oper} (specs : List Spec) (cs : List Nat) {op : Oper} {sp : Spec} {id : Nat} {Q : Exit → Act → World → Prop} {a : Act} {w : World}
    (hm : P.follows .mixedOrders = true) (hB : lateB (L.take n) (L.drop n) p = true) (hds : ((L.take n).all fun o => match o.dst with | some d => decide (d < a.tmps.size) | none => false) = true)
    (hlen : specs.length = (L.take n).length) (hlc : cs.length = (L.take n).length) (hrefl : ∀ w,R w w) (htrans : ∀ a b c,R a b → R b c → R a c) (hstab : ∀ s ∈ specs,∀ v w w',R w w' → s v w → s v w')
    (hG : G K0 w.drew) (hop : (L.take n)[p]? = some op) (hdp : op.dst = some dp) (hsp : specs[p]? = some sp) (hcp : cs[p]? = some 0) (hsx : ∀ w,sp x w)
    (hpure : ∀ a1 w1 w2,depsL (L.take n) specs a1 w1 op.after.toList → (execOp a1.eval op).run P w2 = .ok (.value x) w2)
    (hsteps : looseSteps (StepOK P R G K0 (K0 + cs.sum) (L.take n) specs a w.drew) (L.take n) specs cs)
    (hend : ∀ w',R w.drew w' → G (K0 + cs.sum) w' → looseAll w' (fun a' => ∃ w1,(∀ t0 v,(L.drop n).head? = some t0 → (execOp (a'.put (some dp) v).eval t0).run P w' = .ok .skip w1) ∧ wpList P L.toArray Q ((L.drop n).drop 1) a' w1) (L.take n) specs a) : (Code.region id L.toArray true).wp P Q a w:=by
 have hL : L = L.take n ++ L.drop n:=(List.take_append_drop n L).symm
 have hend' : ∀ w',R w.drew w' → G (K0 + cs.sum) w' → looseAll w' (fun a' => ∃ w1,(∀ t0 v,(L.drop n).head? = some t0 → (execOp (a'.put (some dp) v).eval t0).run P w' = .ok .skip w1) ∧ wpList P (L.take n ++ L.drop n).toArray Q ((L.drop n).drop 1) a' w1) (L.take n) specs a:=by rw [← hL]; exact hend
 rw [hL]
 refine wp_region_any hm ?_
 have hsz : (L.take n ++ L.drop n).toArray.size = (L.take n).length + (L.drop n).length:=by rw [List.size_toArray,List.length_append]
 rw [hsz]
 have hds' : ∀ o ∈ L.take n,∃ d,o.dst = some d ∧ d < a.tmps.size:=fun o ho => by
  have:=List.all_eq_true.1 hds o ho
  cases hd : o.dst with
  | none => rw [hd] at this; cases this
  | some d => rw [hd] at this; exact ⟨d,rfl,by simpa using this⟩
 have hrep : ∀ j,j < (L.take n).length + (L.drop n).length → (Array.replicate ((L.take n).length + (L.drop n).length) false).getD j true = false:=fun j hj => by
  rw [Array.getD_eq_getD_getElem?,Array.getElem?_replicate,if_pos hj]; rfl
 refine wp_late_any hB hds' hlen hlc htrans hstab hsteps hop hdp hsp hcp hsx hpure hend' _ _ a _ ⟨Array.size_replicate,hrefl _,?_,rfl,rfl,fun _ _ => rfl,fun i o s h1 _ h => ?_,fun j _ h2 => hrep j h2,fun i o h1 h2 => ?_⟩ ?_
 ·have : costL cs 0 (fun i => (Array.replicate ((L.take n).length + (L.drop n).length) false).getD i false) = 0:=by
     rw [costL_congr (g:=fun _ => false) (fun j _ => by
      rw [Array.getD_eq_getD_getElem?,Array.getElem?_replicate]; split <;> rfl),costL_none]
  rw [this]; exact hG
 ·rw [Array.getD_eq_getD_getElem?,Array.getElem?_replicate] at h
  split at h <;> cases h
 ·have:=hrep i (by have:=(List.getElem?_eq_some_iff.1 h1).1; omega)
  rw [this] at h2; cases h2
 ·exact Nat.le_trans List.countP_le_length (by simp)
end Go.Proofs.YtfnmlffpnmmcdaaGreatDoor
