/- Parts of the proof, merged: ElT Reader DrawKit DrawDay DrawText DrawWord DrawItem DrawFeed DrawHandle. -/
import Derived.Test.YtfnmlffpnmmcdaaGreatDoorMq2
import Derived.Test.YtfnmlffpnmmcdaaGreatDoorMq1
import Derived.Test.YtfnmlffpnmmcdaaGreatDoorMq3
import Derived.Test.YtfnmlffpnmmcdaaGreatDoorMq5
import Derived.Test.YtfnmlffpnmmcdaaGreatDoorMq4
import Derived.Deep.RegionWith
import Derived.Test.YtfnmlffpnmmcdaaGreatDoorMq7
import Derived.Deep.RegionHeld3
namespace Go.Proofs.YtfnmlffpnmmcdaaGreatDoor
set_option maxRecDepth 100000
open Go.RowKit
set_option maxHeartbeats 1600000 in
theorem specElementsText_any (A : Option Addr) (cap B : Nat) (xs : List ElElement) (w : World) (h : RdE 2 encElement w B A xs) (hB : B ≤ w.heap.size) (hl : xs.length ≤ 1048576) (hsz : ∀ k,k < xs.length → (gt xs k).1.size ≤ maxLen ∧ (gt xs k).2.size ≤ maxLen) :
    Calls Tryz.prog 137 #[.slice A xs.length cap] w fun e w' => (∃ s : ByteArray,e = .returned (.string s) ∧ s.size ≤ 8000) ∧ Below w.heap.size w w':=by
 have HZ:=Lib.hid hsz;clear hsz;go_enter Tryz.func137,Tryz.ntmps137;cases hv : evB xs
 ·have HV:=Lib.hid hv
  clear hv;have hcall:=fun W hA hBW => specElementsValid_any A cap B xs W hA hBW (by omega) HZ.out
  rw [HV.out] at hcall;have HC:=Lib.hid hcall;clear hcall HV;by_cases h0 : 0 < xs.length
  ·have g0 : decide ((0 : Int) < (xs.length : Int)) = true:=decide_eq_true (by omega)
   go_wp2_with fail
   go_loopw [3,4] (fun o i wr => o = .string { data:=#[] } ∧ i = .int .i64 0 ∧ wr = w) (fun _ _ _ => 1)
   case atStart => exact ⟨rfl,rfl,rfl⟩
   case round =>
    obtain ⟨rfl,rfl,rfl⟩:=hrel
    go_wp2_with fail
    refine (HC.out wr h hB).mono ?_;rintro e w1 ⟨rfl,b1⟩
    go_wp2_with fail
    go_ret;exact ⟨⟨_,rfl,by decide⟩,b1⟩
  ·have g0 : decide ((0 : Int) < (xs.length : Int)) = false:=decide_eq_false (by omega)
   go_wp2_with fail
   go_loopw [3,4] (fun o i wr => o = .string { data:=#[] } ∧ i = .int .i64 0 ∧ wr = w) (fun _ _ _ => 1)
   case atStart => exact ⟨rfl,rfl,rfl⟩
   case round =>
    obtain ⟨rfl,rfl,rfl⟩:=hrel
    go_wp2_with fail
    go_ret;exact ⟨⟨_,rfl,by decide⟩,Below.refl _ _⟩
 ·obtain ⟨hl8,hve⟩:=evB_at hv
  have HVE:=Lib.hid hve;clear hve;have hcall:=fun W hA hBW => specElementsValid_any A cap B xs W hA hBW (by omega) HZ.out
  rw [hv] at hcall;have HC:=Lib.hid hcall;clear hcall hv
  go_wp2_with fail
  go_loopw [3,4] (fun o i wr => ∃ (k : Nat) (s : ByteArray),k ≤ xs.length ∧ o = .string s ∧ s.size ≤ 1000 * k ∧ i = .int .i64 k ∧ Below w.heap.size w wr) (fun _ i _ => xs.length - (intOf i).toNat)
  case atStart => exact ⟨0,{ data:=#[] },Nat.zero_le _,rfl,by decide,rfl,Below.refl _ _⟩
  case round =>
   obtain ⟨k,s,hk,rfl,hs,rfl,hbl⟩:=hrel;by_cases hlt : k < xs.length
   ·go_wp2_with fail
    refine (HC.out wr (h.below (hbl.mono hB)) (Nat.le_trans hB hbl.size)).mono ?_;rintro e w1 ⟨rfl,b1⟩;have hb1:=hbl.trans (b1.mono hbl.size);obtain ⟨b,off,rfl,hb,hc⟩:=(h.below (hb1.mono hB)).at_ (by omega);have c0 : w1.cell? ⟨b,off + k * 2,none⟩ = some (Value.string (gt xs k).1):=hc k 0 hlt (by omega);have c1 : w1.cell? ⟨b,off + k * 2 + 1,none⟩ = some (Value.string (gt xs k).2):=hc k 1 hlt (by omega);obtain ⟨z0,z1⟩:=HZ.out k hlt;have hw:=HVE.out k hlt;unfold eB at hw;rw [Bool.and_eq_true] at hw;have hw1:=(Word.of hw.1).2.1;have he:=esOf_size (gt xs k).2;have HE2:=fun W => specEscapeText_any (gt xs k).2 W z1
    clear hc hw hbl b1;have hbw : b < w1.heap.size:=by have:=hb1.size; omega
    go_wp2_with fail
    go_quiet ((go_at_call 147; exact quiet_of (HE2 _)))
    go_wp2_with fail
    go_roundw
    case rel =>
     refine ⟨k + 1,_,by omega,rfl,?_,by go_num,below_drewN hb1 _⟩;have e1 : ({ data:=#[60] } : ByteArray).size = 1:=rfl;have e2 : ({ data:=#[62] } : ByteArray).size = 1:=rfl;have e3 : ({ data:=#[60,47] } : ByteArray).size = 2:=rfl;simp only [ByteArray.size_append];omega
    case measure => simp [intOf]; omega
   ·obtain rfl : k = xs.length:=by omega
    go_wp2_with fail
    go_ret;exact ⟨⟨_,rfl,by omega⟩,hbl⟩
def anyS (m : Nat) : Spec:=fun v _ => ∃ t : ByteArray,v = .string t ∧ t.size ≤ m
def dayE : Spec:=fun v _ => ∃ t : ByteArray,v = .agg #[.string { data:=#[100,97,121] },.string t] ∧ t.size ≤ 64
def elsS : Spec:=fun v w => ∃ (A : Option Addr) (xs : List ElElement),v = .slice A 4 4 ∧ xs.length = 4 ∧ (∀ k,k < xs.length → (gt xs k).1.size ≤ maxLen ∧ (gt xs k).2.size ≤ maxLen) ∧ RdE 2 encElement w w.heap.size A xs
theorem anyS_stb (m : Nat) : StbB (anyS m):=fun _ _ _ _ h => h
theorem dayE_stb : StbB dayE:=fun _ _ _ _ h => h
theorem elsS_stb : StbB elsS:=fun _ _ _ h ⟨A,xs,h1,h2,h3,h4⟩ => ⟨A,xs,h1,h2,h3,(h4.below h).more h.size⟩
set_option maxHeartbeats 1600000 in
theorem specItemText_some (a b c : ByteArray) (d : Int) (w : World) (ha : a.size ≤ maxLen) (hb : b.size ≤ maxLen) (hc : c.size ≤ maxLen) :
    Calls Tryz.prog 113 #[.agg #[.string a,.string b,.string c,.int .i64 d]] w fun e w' => (∃ s : ByteArray,e = .returned (.string s) ∧ s.size ≤ 8000) ∧ Below w.heap.size w w':=by
 have bA : Below w.heap.size w (w.alloc (.cells #[.string a,.string b,.string c,.int .i64 d] 69)):=(Below.refl _ _).alloc (Nat.le_refl _) _;have oB : Own (w.alloc (.cells #[.string a,.string b,.string c,.int .i64 d] 69)) w.heap.size 69 4 (some ⟨w.heap.size,0,none⟩) 1 1 (encItem (a,b,c,d)):=Own.lit w 69 4 1 #[Value.string a,Value.string b,Value.string c,Value.int .i64 d] (encItem (a,b,c,d)) (by simp only [maxLen]; omega) (by rfl);have c0:=(show _ = some (Value.string a) from oB.cell rfl (j:=0) (by omega));have c1:=(show _ = some (Value.string b) from oB.cell rfl (j:=1) (by omega));have c2:=(show _ = some (Value.string c) from oB.cell rfl (j:=2) (by omega));have c3:=(show _ = some (Value.int .i64 d) from oB.cell rfl (j:=3) (by omega));go_enter Tryz.func113,Tryz.ntmps113
 go_wp2_with fail
 generalize (w.alloc (.cells #[.string a,.string b,.string c,.int .i64 d] 69)) = wA at *
 refine (specItemValid_any a b c d wA ha hb hc).mono ?_;rintro e w1 ⟨rfl,b1⟩;have k1:=bA.trans (b1.mono bA.size);have oB1:=Own.below oB b1;have z1:=(oB1.lt (b:=w.heap.size) rfl).2;clear c0 c1 c2 c3;cases ivB (a,b,c,d)
 ·go_wp2_with fail
  go_ret;exact ⟨⟨_,rfl,by decide⟩,k1⟩
 ·skip
  have c0:=(show _ = some (Value.string a) from oB1.cell rfl (j:=0) (by omega));have c1:=(show _ = some (Value.string b) from oB1.cell rfl (j:=1) (by omega));have c2:=(show _ = some (Value.string c) from oB1.cell rfl (j:=2) (by omega));have c3:=(show _ = some (Value.int .i64 d) from oB1.cell rfl (j:=3) (by omega))
  go_wp2_with fail
  refine wp_region_makes 15 [(isS (.pointer (some ⟨w.heap.size,0,none⟩))),(isS (Value.string a)),(isS (.agg #[.string { data:=#[107,101,121] },.string a])),(isS (.pointer (some ⟨w.heap.size,1,none⟩))),(isS (Value.string b)),(isS (.agg #[.string { data:=#[116,105,116,108,101] },.string b])),(isS (.pointer (some ⟨w.heap.size,2,none⟩))),(isS (Value.string c)),(isS (.agg #[.string { data:=#[98,111,100,121] },.string c])),(isS (.pointer (some ⟨w.heap.size,3,none⟩))),(isS (Value.int .i64 d)),(anyS 64),dayE,elsS,(anyS 8000)] [0,0,0,0,0,0,0,0,0,0,0,0,0,0,0] (by kernel_rfl) (by kernel_rfl) (by rfl) (by rfl) (by rfl) ?_ ?_ ?_
  ·repeat (first | exact stbB_nil | refine stbB_cons (by first | exact isS_stb _ | exact anyS_stb _ | exact dayE_stb | exact elsS_stb) ?_)
  ·simp only [List.take_succ_cons,List.take_zero]
   refine looseSteps_cons (fun kk a' w' hk0' hk1' hR hG hkp hd => ?_) ?_
   ·have hR0 : Below w1.drew.heap.size w1.drew w':=hR
    have hRb : Below w1.heap.size w1 w':=⟨hR0.os,hR0.tape,hR0.output,hR0.size,hR0.block⟩;have k1' : a'.tmps.getD 1 undef = .pointer (some ⟨w.heap.size,0,none⟩):=hkp 1 (by rfl);unfold looseRun;go_simp;exact ⟨Below.refl _ _,trivial,rfl⟩
   refine looseSteps_cons (fun kk a' w' hk0' hk1' hR hG hkp hd => ?_) ?_
   ·have hR0 : Below w1.drew.heap.size w1.drew w':=hR
    have hRb : Below w1.heap.size w1 w':=⟨hR0.os,hR0.tape,hR0.output,hR0.size,hR0.block⟩;have e1:=hd.1 rfl;have e1' : a'.tmps.getD 6 undef = _:=e1;have e1q:=e1';rw [Array.getD_eq_getD_getElem?] at e1q;have rr0:=(hRb.cell (p:=⟨w.heap.size,0,none⟩) (by exact z1)).trans c0;unfold looseRun;go_simp;exact ⟨Below.refl _ _,trivial,rfl⟩
   refine looseSteps_cons (fun kk a' w' hk0' hk1' hR hG hkp hd => ?_) ?_
   ·have hR0 : Below w1.drew.heap.size w1.drew w':=hR
    have hRb : Below w1.heap.size w1 w':=⟨hR0.os,hR0.tape,hR0.output,hR0.size,hR0.block⟩;have e1:=hd.1 rfl;have e1' : a'.tmps.getD 7 undef = _:=e1;have e1q:=e1';rw [Array.getD_eq_getD_getElem?] at e1q;unfold looseRun;go_simp;exact ⟨Below.refl _ _,trivial,rfl⟩
   refine looseSteps_cons (fun kk a' w' hk0' hk1' hR hG hkp hd => ?_) ?_
   ·have hR0 : Below w1.drew.heap.size w1.drew w':=hR
    have hRb : Below w1.heap.size w1 w':=⟨hR0.os,hR0.tape,hR0.output,hR0.size,hR0.block⟩;have k1' : a'.tmps.getD 1 undef = .pointer (some ⟨w.heap.size,0,none⟩):=hkp 1 (by rfl);unfold looseRun;go_simp;exact ⟨Below.refl _ _,trivial,rfl⟩
   refine looseSteps_cons (fun kk a' w' hk0' hk1' hR hG hkp hd => ?_) ?_
   ·have hR0 : Below w1.drew.heap.size w1.drew w':=hR
    have hRb : Below w1.heap.size w1 w':=⟨hR0.os,hR0.tape,hR0.output,hR0.size,hR0.block⟩;have e1:=hd.1 rfl;have e1' : a'.tmps.getD 9 undef = _:=e1;have e1q:=e1';rw [Array.getD_eq_getD_getElem?] at e1q;have rr1:=(hRb.cell (p:=⟨w.heap.size,1,none⟩) (by exact z1)).trans c1;unfold looseRun;go_simp;exact ⟨Below.refl _ _,trivial,rfl⟩
   refine looseSteps_cons (fun kk a' w' hk0' hk1' hR hG hkp hd => ?_) ?_
   ·have hR0 : Below w1.drew.heap.size w1.drew w':=hR
    have hRb : Below w1.heap.size w1 w':=⟨hR0.os,hR0.tape,hR0.output,hR0.size,hR0.block⟩;have e1:=hd.1 rfl;have e1' : a'.tmps.getD 10 undef = _:=e1;have e1q:=e1';rw [Array.getD_eq_getD_getElem?] at e1q;unfold looseRun;go_simp;exact ⟨Below.refl _ _,trivial,rfl⟩
   refine looseSteps_cons (fun kk a' w' hk0' hk1' hR hG hkp hd => ?_) ?_
   ·have hR0 : Below w1.drew.heap.size w1.drew w':=hR
    have hRb : Below w1.heap.size w1 w':=⟨hR0.os,hR0.tape,hR0.output,hR0.size,hR0.block⟩;have k1' : a'.tmps.getD 1 undef = .pointer (some ⟨w.heap.size,0,none⟩):=hkp 1 (by rfl);unfold looseRun;go_simp;exact ⟨Below.refl _ _,trivial,rfl⟩
   refine looseSteps_cons (fun kk a' w' hk0' hk1' hR hG hkp hd => ?_) ?_
   ·have hR0 : Below w1.drew.heap.size w1.drew w':=hR
    have hRb : Below w1.heap.size w1 w':=⟨hR0.os,hR0.tape,hR0.output,hR0.size,hR0.block⟩;have e1:=hd.1 rfl;have e1' : a'.tmps.getD 12 undef = _:=e1;have e1q:=e1';rw [Array.getD_eq_getD_getElem?] at e1q;have rr2:=(hRb.cell (p:=⟨w.heap.size,2,none⟩) (by exact z1)).trans c2;unfold looseRun;go_simp;exact ⟨Below.refl _ _,trivial,rfl⟩
   refine looseSteps_cons (fun kk a' w' hk0' hk1' hR hG hkp hd => ?_) ?_
   ·have hR0 : Below w1.drew.heap.size w1.drew w':=hR
    have hRb : Below w1.heap.size w1 w':=⟨hR0.os,hR0.tape,hR0.output,hR0.size,hR0.block⟩;have e1:=hd.1 rfl;have e1' : a'.tmps.getD 13 undef = _:=e1;have e1q:=e1';rw [Array.getD_eq_getD_getElem?] at e1q;unfold looseRun;go_simp;exact ⟨Below.refl _ _,trivial,rfl⟩
   refine looseSteps_cons (fun kk a' w' hk0' hk1' hR hG hkp hd => ?_) ?_
   ·have hR0 : Below w1.drew.heap.size w1.drew w':=hR
    have hRb : Below w1.heap.size w1 w':=⟨hR0.os,hR0.tape,hR0.output,hR0.size,hR0.block⟩;have k1' : a'.tmps.getD 1 undef = .pointer (some ⟨w.heap.size,0,none⟩):=hkp 1 (by rfl);unfold looseRun;go_simp;exact ⟨Below.refl _ _,trivial,rfl⟩
   refine looseSteps_cons (fun kk a' w' hk0' hk1' hR hG hkp hd => ?_) ?_
   ·have hR0 : Below w1.drew.heap.size w1.drew w':=hR
    have hRb : Below w1.heap.size w1 w':=⟨hR0.os,hR0.tape,hR0.output,hR0.size,hR0.block⟩;have e1:=hd.1 rfl;have e1' : a'.tmps.getD 15 undef = _:=e1;have e1q:=e1';rw [Array.getD_eq_getD_getElem?] at e1q;have rr3:=(hRb.cell (p:=⟨w.heap.size,3,none⟩) (by exact z1)).trans c3;unfold looseRun;go_simp;exact ⟨Below.refl _ _,trivial,rfl⟩
   refine looseSteps_cons (fun kk a' w' hk0' hk1' hR hG hkp hd => ?_) ?_
   ·have hR0 : Below w1.drew.heap.size w1.drew w':=hR
    have hRb : Below w1.heap.size w1 w':=⟨hR0.os,hR0.tape,hR0.output,hR0.size,hR0.block⟩;have e1:=hd.1 rfl;have e1' : a'.tmps.getD 16 undef = _:=e1;have e1q:=e1';rw [Array.getD_eq_getD_getElem?] at e1q;unfold looseRun;go_simp;refine ⟨rfl,(specDateText_any d w').mono ?_⟩;rintro e u ⟨⟨s,rfl,hs⟩,hb2⟩;exact ⟨_,rfl,hb2,trivial,s,rfl,by unfold IsDay at hs; split at hs <;> omega⟩
   refine looseSteps_cons (fun kk a' w' hk0' hk1' hR hG hkp hd => ?_) ?_
   ·have hR0 : Below w1.drew.heap.size w1.drew w':=hR
    have hRb : Below w1.heap.size w1 w':=⟨hR0.os,hR0.tape,hR0.output,hR0.size,hR0.block⟩;obtain ⟨t,e1,ht⟩:=hd.1 rfl;have e1' : a'.tmps.getD 17 undef = _:=e1;have e1q:=e1';rw [Array.getD_eq_getD_getElem?] at e1q;unfold looseRun;go_simp;exact ⟨Below.refl _ _,trivial,t,rfl,ht⟩
   refine looseSteps_cons (fun kk a' w' hk0' hk1' hR hG hkp hd => ?_) ?_
   ·have hR0 : Below w1.drew.heap.size w1.drew w':=hR
    have hRb : Below w1.heap.size w1 w':=⟨hR0.os,hR0.tape,hR0.output,hR0.size,hR0.block⟩;have e1:=hd.1 rfl;have e2:=hd.2.1 rfl;have e3:=hd.2.2.1 rfl;obtain ⟨t,e4,ht⟩:=hd.2.2.2.1 rfl;have e1' : a'.tmps.getD 8 undef = _:=e1;have e1q:=e1';rw [Array.getD_eq_getD_getElem?] at e1q;have e2' : a'.tmps.getD 11 undef = _:=e2;have e2q:=e2';rw [Array.getD_eq_getD_getElem?] at e2q;have e3' : a'.tmps.getD 14 undef = _:=e3;have e3q:=e3';rw [Array.getD_eq_getD_getElem?] at e3q;have e4' : a'.tmps.getD 18 undef = _:=e4;have e4q:=e4';rw [Array.getD_eq_getD_getElem?] at e4q;unfold looseRun;go_simp;refine ⟨below_new _ _,trivial,_,[({ data:=#[107,101,121] },a),({ data:=#[116,105,116,108,101] },b),({ data:=#[98,111,100,121] },c),({ data:=#[100,97,121] },t)],rfl,rfl,?_,?_⟩
    ·intro k hk
     match k,hk with
     | 0,_ => exact ⟨(by decide : ({ data:=#[107,101,121] } : ByteArray).size ≤ maxLen),ha⟩
     | 1,_ => exact ⟨(by decide : ({ data:=#[116,105,116,108,101] } : ByteArray).size ≤ maxLen),hb⟩
     | 2,_ => exact ⟨(by decide : ({ data:=#[98,111,100,121] } : ByteArray).size ≤ maxLen),hc⟩
     | 3,_ => exact ⟨(by decide : ({ data:=#[100,97,121] } : ByteArray).size ≤ maxLen),by show t.size ≤ maxLen; simp only [maxLen]; omega⟩
    ·exact OwnE.rd (Own.lit w' 107 2 4 #[.string { data:=#[107,101,121] },.string a,.string { data:=#[116,105,116,108,101] },.string b,.string { data:=#[98,111,100,121] },.string c,.string { data:=#[100,97,121] },.string t] (cE 2 encElement [({ data:=#[107,101,121] },a),({ data:=#[116,105,116,108,101] },b),({ data:=#[98,111,100,121] },c),({ data:=#[100,97,121] },t)]) (by simp only [maxLen]; omega) (by rfl))
   refine looseSteps_cons (fun kk a' w' hk0' hk1' hR hG hkp hd => ?_) ?_
   ·have hR0 : Below w1.drew.heap.size w1.drew w':=hR
    have hRb : Below w1.heap.size w1 w':=⟨hR0.os,hR0.tape,hR0.output,hR0.size,hR0.block⟩;obtain ⟨A,xs,e1,hx4,hxz,hxr⟩:=hd.1 rfl;have e1' : a'.tmps.getD 19 undef = _:=e1;have e1q:=e1';rw [Array.getD_eq_getD_getElem?] at e1q;unfold looseRun;go_simp;have hcall:=specElementsText_any A 4 w'.heap.size xs w' hxr (Nat.le_refl _) (by omega) hxz;rw [hx4] at hcall;refine ⟨rfl,hcall.mono ?_⟩;rintro e u ⟨⟨s,rfl,hs⟩,hb2⟩;exact ⟨_,rfl,hb2,trivial,s,rfl,hs⟩
   exact looseSteps_nil
  ·intro w5 b5
   simp only [List.take_succ_cons,List.take_zero,List.drop_succ_cons,List.drop_zero];refine looseAll_cons fun v6 h6 => ?_
   refine looseAll_cons fun v7 h7 => ?_
   refine looseAll_cons fun v8 h8 => ?_
   refine looseAll_cons fun v9 h9 => ?_
   refine looseAll_cons fun v10 h10 => ?_
   refine looseAll_cons fun v11 h11 => ?_
   refine looseAll_cons fun v12 h12 => ?_
   refine looseAll_cons fun v13 h13 => ?_
   refine looseAll_cons fun v14 h14 => ?_
   refine looseAll_cons fun v15 h15 => ?_
   refine looseAll_cons fun v16 h16 => ?_
   refine looseAll_cons fun v17 h17 => ?_
   refine looseAll_cons fun v18 h18 => ?_
   refine looseAll_cons fun v19 h19 => ?_
   refine looseAll_cons fun v20 h20 => ?_
   refine looseAll_nil ?_;obtain ⟨s,rfl,hs⟩:=h20;clear h6 h7 h8 h9 h10 h11 h12 h13 h14 h15 h16 h17 h18 h19;simp only [Act.put,List.setIfInBounds_toArray,List.set_cons_zero,List.set_cons_succ]
   go_wp2_with fail
   go_ret;exact ⟨⟨_,rfl,hs⟩,k1.trans (b5.mono k1.size)⟩
end Go.Proofs.YtfnmlffpnmmcdaaGreatDoor
namespace Go.Proofs.YtfnmlffpnmmcdaaGreatDoor
set_option maxRecDepth 100000
open Go.RowKit
def Rdr (w : World) (g m : Nat) : Prop :=
 ∃ (A : Option Addr) (n cap B : Nat) (f : Nat → Int) (p : Nat),w.heap[g]? = some (.cells #[.slice A n cap,.int .i64 p] 127 (0,0)) ∧ n ≤ 2000 ∧ B ≤ g ∧ Rd w B 1 A n (fun j => .int .u8 (f j)) ∧ (∀ j,0 ≤ f j ∧ f j ≤ 255) ∧ p ≤ m
theorem Rdr.more {w : World} {g m m' : Nat} (h : Rdr w g m) (hm : m ≤ m') : Rdr w g m':=by
 obtain ⟨A,n,cap,B,f,p,h1,h2,h3,h4,h5,h6⟩:=h;exact ⟨A,n,cap,B,f,p,h1,h2,h3,h4,h5,by omega⟩
theorem Rdr.lt {w : World} {g m : Nat} (h : Rdr w g m) : g < w.heap.size:=by
 obtain ⟨A,n,cap,B,f,p,h1,_⟩:=h;exact (Array.getElem?_eq_some_iff.1 h1).1
theorem Rdr.keep {w w' : World} {g m : Nat} (h : Rdr w g m) (hb : ∀ k,k ≤ g → w'.heap[k]? = w.heap[k]?) : Rdr w' g m:=by
 obtain ⟨A,n,cap,B,f,p,h1,h2,h3,h4,h5,h6⟩:=h;exact ⟨A,n,cap,B,f,p,by rw [hb g (Nat.le_refl _)]; exact h1,h2,h3,h4.keep (fun q hq => World.cell?_of_block (hb _ (by omega))),h5,h6⟩
theorem Rdr.below {w w' : World} {g m B : Nat} (h : Rdr w g m) (hb : Below B w w') (hg : g < B) : Rdr w' g m:=h.keep fun k hk => hb.block k (by omega)
theorem Rdr.drewN {w : World} {g m : Nat} (h : Rdr w g m) (k : Nat) : Rdr (w.drewN k) g m:=h
theorem Rdr.grown {w w' : World} {g m : Nat} {row : Option Nat} (h : Rdr w g m) (hg : w.grownBy w' row) (hr : ∀ k,row = some k → g < k) : Rdr w' g m :=
 h.keep fun k hk => hg.block k (by have:=h.lt; omega) (fun e => by have:=hr k e.symm; omega)
theorem Rdr.alloc {w : World} {g m : Nat} (h : Rdr w g m) (o : Obj) : Rdr (w.alloc o) g m:=h.below ((Below.refl _ _).alloc (Nat.le_refl _) o) h.lt
theorem Rdr.asked {w : World} {g m n cap B p : Nat} {A : Option Addr} {f : Nat → Int} (h1 : w.heap[g]? = some (.cells #[.slice A n cap,.int .i64 p] 127 (0,0))) (h2 : n ≤ 2000) (h3 : B ≤ g) (h4 : Rd w B 1 A n (fun j => .int .u8 (f j))) (h5 : ∀ j,0 ≤ f j ∧ f j ≤ 255) (h6 : p ≤ m) (k : Nat) :
    Rdr ((w.setCell ⟨g,1,none⟩ (.int .i64 ((p : Int) + 1))).drewN k) g (m + 1) ∧ w.grownBy ((w.setCell ⟨g,1,none⟩ (.int .i64 ((p : Int) + 1))).drewN k) (some g):=by
 refine ⟨⟨A,n,cap,B,f,p + 1,?_,h2,h3,?_,h5,by omega⟩,?_⟩
 ·show (w.setCell ⟨g,1,none⟩ (.int .i64 ((p : Int) + 1))).heap[g]? = _
  simp only [World.setCell,Array.getElem?_modify,if_true,h1,Option.map_some];rfl
 ·exact Rd.keep h4 (fun q hq => World.cell?_of_block (Below.heap_setCell _ _ _ _ (by show q.block ≠ g; omega)))
 ·exact ⟨rfl,rfl,rfl,by simp [World.drewN,World.setCell],fun i _ hi => Below.heap_setCell _ _ _ _ (fun e => hi (by rw [e]))⟩
theorem ofInt_i64 (a : Nat) (ha : a < 9223372036854775808) : (BitVec.ofInt 64 (a : Int)).toNat = a:=by
 rw [BitVec.ofInt_natCast,BitVec.toNat_ofNat]; exact Nat.mod_eq_of_lt (by omega)
theorem xor_nat (a b : Nat) (ha : a < 9223372036854775808) (hb : b < 9223372036854775808) : bits .xor .i64 (a : Int) (b : Int) = ((a ^^^ b : Nat) : Int):=by
 have hx : a ^^^ b < 2 ^ 63:=Nat.xor_lt_two_pow (by omega) (by omega)
 show IntKind.i64.wrap ((BitVec.ofInt 64 (a : Int) ^^^ BitVec.ofInt 64 (b : Int)).toNat : Int) = _
 rw [BitVec.toNat_xor,ofInt_i64 a ha,ofInt_i64 b hb,IntKind.wrap_i64];omega
theorem only_below {a b c : World} {row : Option Nat} {B : Nat} (h : a.grownBy b row) (k : Below B b c) (hB : a.heap.size ≤ B) : a.grownBy c row :=
 ⟨k.os.trans h.os,k.tape.trans h.tape,k.output.trans h.output,Nat.le_trans h.size k.size,fun i hi hne => (k.block i (by omega)).trans (h.block i hi hne)⟩
theorem only_alloc (a : World) (row : Option Nat) {b : World} (h : a.grownBy b row) (o : Obj) : a.grownBy (b.alloc o) row:=only_below h ((Below.refl _ _).alloc (Nat.le_refl _) o) h.size
theorem tab_cell {w w1 : World} {g : Nat} {cs : Array Value} {e : TypeId} (hg : (w.alloc (.cells cs e)).grownBy w1 (some g)) (h : g < w.heap.size) (i : Nat) : w1.cell? ⟨w.heap.size,i,none⟩ = cs[i]?:=by
 rw [World.cell?_of_block (w:=w.alloc (.cells cs e)) (hg.block w.heap.size (by simp) (fun e => by injection e; omega)),World.cell?_alloc_at _ _ _ _ rfl]
def Picked (g m : Nat) (n : Int) (w : World) (e : Ending) (w' : World) : Prop:=∃ x : Int,e = .returned (.int .i64 x) ∧ 0 ≤ x ∧ (x < n ∨ x = 0) ∧ Rdr w' g (m + 1) ∧ w.grownBy w' (some g)
theorem pick_any (g m : Nat) (n : Int) (w : World) (h : Rdr w g m) (hm : m ≤ 1048576) :
    Calls Tryz.prog 75 #[.pointer (some ⟨g,0,none⟩),.int .i64 n] w (Picked g m n w):=by
 obtain ⟨A,l,cap,B,f,p,h1,h2,h3,h4,h5,h6⟩:=h;have hask:=Lib.hid (Rdr.asked h1 h2 h3 h4 h5 h6);have c0 : w.cell? ⟨g,0,none⟩ = some (.slice A l cap):=by rw [cell_of_row w g 0 _ _ (0,0) h1]; rfl
 have c1 : w.cell? ⟨g,1,none⟩ = some (.int .i64 p):=by rw [cell_of_row w g 1 _ _ (0,0) h1]; rfl
 have f1 : w.frozen? ⟨g,1,none⟩ = false:=by simp [World.frozen?,h1]
 have H1:=Lib.hid h1; clear h1
 by_cases hn : n < 1
 ·have hd : decide (n < 1) = true:=by simp [hn]
  go_enter Tryz.func75,Tryz.ntmps75
  go_wp2
  go_ret;exact ⟨0,rfl,by omega,.inr rfl,hask.out 0⟩
 ·have hd : decide (n < 1) = false:=by simp; omega
  by_cases hl : l = 0
  ·subst hl
   go_enter Tryz.func75,Tryz.ntmps75
   go_wp2
   go_ret;exact ⟨0,rfl,by omega,.inr rfl,hask.out 0⟩
  ·have hl0 : ((l : Int) == 0) = false:=by simp; omega
   obtain ⟨b,off,rfl,hb,hc⟩:=h4 (by omega);have hne : ¬ b = g:=by omega
   by_cases hk : p < l
   ·have hck:=hc p (by omega)
    have hfp:=h5 p;have hdk : decide ((p : Int) < (l : Int)) = true:=by simp [hk]
    clear hc h4;go_enter Tryz.func75,Tryz.ntmps75;have hn1 : 1 ≤ n:=by omega
    go_wp2
    go_ret;exact ⟨f p % n,rfl,Int.emod_nonneg _ (by omega),.inl (Int.emod_lt_of_pos _ (by omega)),hask.out 0⟩
   ·have hdk : decide ((p : Int) < (l : Int)) = false:=by simp; omega
    have hck:=hc (p % l) (by have:=Nat.mod_lt p (show l > 0 by omega); omega);have hck2:=hc ((p * 7 + 3) % l) (by have:=Nat.mod_lt (p * 7 + 3) (show l > 0 by omega); omega);clear hc h4;have y0 : (0 : Int) ≤ (p : Int) % (l : Int):=Int.emod_nonneg _ (by omega);have y1 : (p : Int) % (l : Int) < (l : Int):=Int.emod_lt_of_pos _ (by omega);have y2 : ((p : Int) % (l : Int)).toNat = p % l:=by rw [← Int.natCast_emod]; exact Int.toNat_natCast _
    have z0 : (0 : Int) ≤ ((p : Int) * 7 + 3) % (l : Int):=Int.emod_nonneg _ (by omega);have z1 : ((p : Int) * 7 + 3) % (l : Int) < (l : Int):=Int.emod_lt_of_pos _ (by omega);have z2 : (((p : Int) * 7 + 3) % (l : Int)).toNat = (p * 7 + 3) % l:=by rw [show (p : Int) * 7 + 3 = ((p * 7 + 3 : Nat) : Int) by omega,← Int.natCast_emod]; exact Int.toNat_natCast _
    have b1:=h5 (p % l);have b2:=h5 ((p * 7 + 3) % l);have q0 : (0 : Int) ≤ (p : Int) / (l : Int):=Int.ediv_nonneg (by omega) (by omega);have q1 : (p : Int) / (l : Int) ≤ p:=Int.ediv_le_self _ (by omega);go_enter Tryz.func75,Tryz.ntmps75
    go_wp2
    go_quiet (fail)
    have hs0 : 0 ≤ f (p % l) * 131 + f ((p * 7 + 3) % l) * 1117 + (p : Int) * 29 + (p : Int) / (l : Int) * 53:=by omega
    have hs1 : f (p % l) * 131 + f ((p * 7 + 3) % l) * 1117 + (p : Int) * 29 + (p : Int) / (l : Int) * 53 ≤ 1000000000:=by omega
    have hn1 : 1 ≤ n:=by omega
    generalize f (p % l) * 131 + f ((p * 7 + 3) % l) * 1117 + (p : Int) * 29 + (p : Int) / (l : Int) * 53 = S at *
    obtain ⟨s,rfl⟩:=Int.eq_ofNat_of_zero_le hs0;have hx : bits .xor .i64 (s : Int) ((s : Int) / 64) = ((s ^^^ (s / 64) : Nat) : Int):=xor_nat s (s / 64) (by omega) (by omega);have hxb : s ^^^ (s / 64) < 1073741824:=Nat.xor_lt_two_pow (n:=30) (by omega) (by omega);clear y0 y1 y2 z0 z1 z2 q0 q1 b1 b2 hck hck2
    go_wp2
    go_ret;exact ⟨_,rfl,Int.emod_nonneg _ (by omega),.inl (Int.emod_lt_of_pos _ (by omega)),hask.out _⟩
def Odd (g m : Nat) (w : World) (e : Ending) (w' : World) : Prop:=∃ b : Bool,e = .returned (.bool b) ∧ Rdr w' g (m + 1) ∧ w.grownBy w' (some g)
theorem odd_any (g m : Nat) (n : Int) (w : World) (h : Rdr w g m) (hm : m ≤ 1048576) (hn : 0 ≤ n) (hn2 : n ≤ 1000000) :
    Calls Tryz.prog 76 #[.pointer (some ⟨g,0,none⟩),.int .i64 n] w (Odd g m w):=by
 by_cases h0 : 0 < n
 ·have hd : decide (0 < n) = true:=by simp [h0]
  go_enter Tryz.func76,Tryz.ntmps76
  go_wp2_with (go_at_call 75; refine (pick_any g m _ _ h hm).mono ?_; rintro e w1 ⟨x,rfl,hx0,hx1,hr,hg⟩)
  all_goals go_ret
  all_goals exact ⟨_,rfl,hr,hg⟩
 ·have hd : decide (0 < n) = false:=by simp; omega
  go_enter Tryz.func76,Tryz.ntmps76
  go_wp2
  go_ret;exact ⟨false,rfl,h.more (by omega),World.grownBy.refl _ _⟩
def RdU (w : World) (B : Nat) (A : Option Addr) (cs : List Int) : Prop:=Rd w B 1 A cs.length (fun j => .int .u8 (PP.at_ cs j))
theorem byte_bounds {cs : List Int} (h : ∀ n ∈ cs,(Lit.int .u8 n).wf = true) (j : Nat) : 0 ≤ PP.at_ cs j ∧ PP.at_ cs j ≤ 255:=by
 unfold PP.at_;cases hj : cs[j]? with
 | none => simp
 | some v =>
  have:=h v (List.mem_of_getElem? hj);simp [Lit.wf,IntKind.min,IntKind.max,IntKind.signed,IntKind.bits] at this;simp only [Option.getD_some];omega
theorem l20Open_any (A : Option Addr) (cap B : Nat) (cs : List Int) (w : World) (h : RdU w B A cs) (hB : B ≤ w.heap.size) (hb : ∀ j,0 ≤ PP.at_ cs j ∧ PP.at_ cs j ≤ 255) (hc : cs.length ≤ cap) (hl : cs.length ≤ 1048576) :
    Calls Tryz.prog 61 #[.slice A cs.length cap] w fun e w' => e = .returned (.pointer (some ⟨w.heap.size,0,none⟩)) ∧ Rdr w' w.heap.size 0 ∧ Below w.heap.size w w':=by
 by_cases hl2 : cs.length ≤ 2000
 ·have hd : decide (2000 < (cs.length : Int)) = false:=by simp; omega
  go_enter Tryz.func61,Tryz.ntmps61
  go_wp2
  go_ret;refine ⟨rfl,⟨A,cs.length,cap,B,PP.at_ cs,0,heap_alloc_new w _,hl2,hB,Rd.below h ((Below.refl _ _).alloc hB _),hb,Nat.le_refl _⟩,(Below.refl _ _).alloc (Nat.le_refl _) _⟩
 ·have hd : decide (2000 < (cs.length : Int)) = true:=by simp; omega
  obtain ⟨b,off,rfl,hbB,hcell⟩:=h (by omega);have hc2 : 2000 ≤ cap:=by omega
  go_enter Tryz.func61,Tryz.ntmps61
  go_wp2
  go_ret;refine ⟨rfl,⟨some ⟨b,off,none⟩,2000,cap,B,PP.at_ cs,0,heap_alloc_new w _,by omega,hB,?_,hb,Nat.le_refl _⟩,(Below.refl _ _).alloc (Nat.le_refl _) _⟩;exact Rd.below (fun _ => ⟨b,off,rfl,hbB,fun j hj => hcell j (by omega)⟩) ((Below.refl _ _).alloc hB _)
def Stb (g : Nat) (s : Spec) : Prop:=∀ v w w',World.grownBy w w' (some g) → s v w → s v w'
def tabS (g n : Nat) (cs : Array Value) : Spec:=fun v w => ∃ b,v = .slice (some ⟨b,0,none⟩) n n ∧ g < b ∧ b < w.heap.size ∧ ∀ i,w.cell? ⟨b,i,none⟩ = cs[i]?
def ptrS (g : Nat) (q : Value → Prop) : Spec:=fun v w => ∃ b i x,v = .pointer (some ⟨b,i,none⟩) ∧ g < b ∧ b < w.heap.size ∧ w.cell? ⟨b,i,none⟩ = some x ∧ q x
def vS (q : Value → Prop) : Spec:=fun v _ => q v
def strP (m : Nat) (v : Value) : Prop:=∃ t : ByteArray,v = .string t ∧ t.size ≤ m
def natP (n : Nat) (v : Value) : Prop:=∃ z : Nat,v = .int .i64 z ∧ z < n
def intP (a b : Int) (v : Value) : Prop:=∃ z : Int,v = .int .i64 z ∧ a ≤ z ∧ z ≤ b
theorem cell_stb {g b i : Nat} {w w' : World} (h : World.grownBy w w' (some g)) (hg : g < b) (hb : b < w.heap.size) : w'.cell? ⟨b,i,none⟩ = w.cell? ⟨b,i,none⟩ :=
 World.cell?_of_block (w:=w) (h.block b hb (fun e => by injection e; omega))
theorem tabS_stb (g n : Nat) (cs : Array Value) : Stb g (tabS g n cs):=fun _ _ _ h ⟨b,h1,h2,h3,h4⟩ => ⟨b,h1,h2,Nat.lt_of_lt_of_le h3 h.size,fun i => by rw [cell_stb h h2 h3]; exact h4 i⟩
theorem ptrS_stb (g : Nat) (q : Value → Prop) : Stb g (ptrS g q):=fun _ _ _ h ⟨b,i,x,h1,h2,h3,h4,h5⟩ => ⟨b,i,x,h1,h2,Nat.lt_of_lt_of_le h3 h.size,by rw [cell_stb h h2 h3]; exact h4,h5⟩
theorem vS_stb (g : Nat) (q : Value → Prop) : Stb g (vS q):=fun _ _ _ _ h => h
theorem stb_nil (g : Nat) : ∀ s ∈ ([] : List Spec),Stb g s:=fun _ h => by cases h
theorem stb_cons {g : Nat} {s : Spec} {ss : List Spec} (h : Stb g s) (h2 : ∀ s ∈ ss,Stb g s) : ∀ t ∈ s :: ss,Stb g t:=fun t ht => by
 rcases List.mem_cons.1 ht with rfl | ht
 ·exact h
 ·exact h2 t ht
theorem tabS_new {g n : Nat} {w : World} (h : g < w.heap.size) (cs : Array Value) (e : TypeId) : tabS g n cs (.slice (some ⟨w.heap.size,0,none⟩) n n) (w.alloc (.cells cs e)) :=
 ⟨w.heap.size,rfl,h,by simp,fun i => by rw [World.cell?_alloc_at _ _ _ _ rfl]⟩
theorem grown_alloc (w : World) (g : Nat) (o : Obj) : World.grownBy w (w.alloc o) (some g):=only_alloc w (some g) (World.grownBy.refl _ _) o
theorem wp_region_draws {P : Program} (g n K0 : Nat) {L : List Oper} (specs : List Spec) (cs : List Nat) {id : Nat} {Q : Exit → Act → World → Prop} {a : Act} {w : World}
    (hm : P.follows .mixedOrders = true) (hB : looseB (L.take n) (L.drop n) = true) (hds : ((L.take n).all fun o => match o.dst with | some d => decide (d < a.tmps.size) | none => false) = true)
    (hlen : specs.length = (L.take n).length) (hlc : cs.length = (L.take n).length) (hstab : ∀ s ∈ specs,Stb g s) (hG : Rdr w g K0)
    (hsteps : looseSteps (StepOK P (fun w w' => World.grownBy w w' (some g)) (fun k w => Rdr w g k) K0 (K0 + cs.sum) (L.take n) specs a w.drew) (L.take n) specs cs)
    (hend : ∀ w',World.grownBy w w' (some g) → Rdr w' g (K0 + cs.sum) → looseAll w' (fun a' => wpList P L.toArray Q (L.drop n) a' w') (L.take n) specs a) : (Code.region id L.toArray true).wp P Q a w :=
 wp_region_loose (R:=fun w w' => World.grownBy w w' (some g)) (G:=fun k w => Rdr w g k) n K0 specs cs hm hB hds hlen hlc (fun _ => World.grownBy.refl _ _) (fun _ _ _ h k => World.grownBy.trans h k) hstab hG hsteps
  (fun w' h => hend w' ⟨h.os,h.tape,h.output,h.size,h.block⟩)
def DrewDay (g m : Nat) (w : World) (e : Ending) (w' : World) : Prop:=∃ d : Int,e = .returned (.int .i64 d) ∧ 0 ≤ d ∧ d ≤ 1460969 ∧ Rdr w' g m ∧ w.grownBy w' (some g)
set_option maxHeartbeats 1600000 in
theorem l20Day_any (g m : Nat) (w : World) (h : Rdr w g m) (hm : m ≤ 1000000) : Calls Tryz.prog 139 #[.pointer (some ⟨g,0,none⟩)] w (DrewDay g (m + 4) w):=by
 have hlt:=h.lt;go_enter Tryz.func139,Tryz.ntmps139
 go_wp2_with fail
 refine (pick_any g _ _ _ h (by omega)).mono ?_;rintro e w1 ⟨a,rfl,ha0,ha1,hr1,hg1⟩
 go_wp2_with fail
 refine (pick_any g _ _ _ hr1 (by omega)).mono ?_;rintro e w2 ⟨b,rfl,hb0,hb1,hr2,hg2⟩
 go_wp2_with fail
 refine (pick_any g _ _ _ hr2 (by omega)).mono ?_;rintro e w3 ⟨c,rfl,hc0,hc1,hr3,hg3⟩;have ha2 : a ≤ 255:=by omega
 have hb2 : b ≤ 255:=by omega
 have hc2 : c ≤ 2:=by omega
 have hg13:=(hg1.trans hg2).trans hg3;have hs3:=hg13.size;have hgA : w.grownBy ((w3.alloc (.cells #[.int .i64 (738000 + a * 7),.int .i64 (b * 5000),.int .i64 0,.int .i64 (1460969 - c)] 3)).alloc (.cells #[.int .i64 0,.int .i64 0,.int .i64 0,.int .i64 1,.int .i64 2,.int .i64 3] 3)) (some g):=only_alloc w (some g) (only_alloc w (some g) hg13 _) _;have hrA:=(hr3.alloc (.cells #[.int .i64 (738000 + a * 7),.int .i64 (b * 5000),.int .i64 0,.int .i64 (1460969 - c)] 3)).alloc (.cells #[.int .i64 0,.int .i64 0,.int .i64 0,.int .i64 1,.int .i64 2,.int .i64 3] 3);have hz1 : w3.heap.size < ((w3.alloc (.cells #[.int .i64 (738000 + a * 7),.int .i64 (b * 5000),.int .i64 0,.int .i64 (1460969 - c)] 3)).alloc (.cells #[.int .i64 0,.int .i64 0,.int .i64 0,.int .i64 1,.int .i64 2,.int .i64 3] 3)).heap.size:=by simp; omega
 have hz2 : w3.heap.size + 1 < ((w3.alloc (.cells #[.int .i64 (738000 + a * 7),.int .i64 (b * 5000),.int .i64 0,.int .i64 (1460969 - c)] 3)).alloc (.cells #[.int .i64 0,.int .i64 0,.int .i64 0,.int .i64 1,.int .i64 2,.int .i64 3] 3)).heap.size:=by simp
 have t0 : ((w3.alloc (.cells #[.int .i64 (738000 + a * 7),.int .i64 (b * 5000),.int .i64 0,.int .i64 (1460969 - c)] 3)).alloc (.cells #[.int .i64 0,.int .i64 0,.int .i64 0,.int .i64 1,.int .i64 2,.int .i64 3] 3)).cell? ⟨w3.heap.size,0,none⟩ = some (.int .i64 (738000 + a * 7)):=by
  rw [((Below.refl (w3.heap.size + 1) (w3.alloc (.cells #[.int .i64 (738000 + a * 7),.int .i64 (b * 5000),.int .i64 0,.int .i64 (1460969 - c)] 3))).alloc (by simp) _).cell (by show w3.heap.size < w3.heap.size + 1; omega),World.cell?_alloc_at _ _ _ _ rfl]; rfl
 have t1 : ((w3.alloc (.cells #[.int .i64 (738000 + a * 7),.int .i64 (b * 5000),.int .i64 0,.int .i64 (1460969 - c)] 3)).alloc (.cells #[.int .i64 0,.int .i64 0,.int .i64 0,.int .i64 1,.int .i64 2,.int .i64 3] 3)).cell? ⟨w3.heap.size,1,none⟩ = some (.int .i64 (b * 5000)):=by
  rw [((Below.refl (w3.heap.size + 1) (w3.alloc (.cells #[.int .i64 (738000 + a * 7),.int .i64 (b * 5000),.int .i64 0,.int .i64 (1460969 - c)] 3))).alloc (by simp) _).cell (by show w3.heap.size < w3.heap.size + 1; omega),World.cell?_alloc_at _ _ _ _ rfl]; rfl
 have t2 : ((w3.alloc (.cells #[.int .i64 (738000 + a * 7),.int .i64 (b * 5000),.int .i64 0,.int .i64 (1460969 - c)] 3)).alloc (.cells #[.int .i64 0,.int .i64 0,.int .i64 0,.int .i64 1,.int .i64 2,.int .i64 3] 3)).cell? ⟨w3.heap.size,2,none⟩ = some (.int .i64 (0)):=by
  rw [((Below.refl (w3.heap.size + 1) (w3.alloc (.cells #[.int .i64 (738000 + a * 7),.int .i64 (b * 5000),.int .i64 0,.int .i64 (1460969 - c)] 3))).alloc (by simp) _).cell (by show w3.heap.size < w3.heap.size + 1; omega),World.cell?_alloc_at _ _ _ _ rfl]; rfl
 have t3 : ((w3.alloc (.cells #[.int .i64 (738000 + a * 7),.int .i64 (b * 5000),.int .i64 0,.int .i64 (1460969 - c)] 3)).alloc (.cells #[.int .i64 0,.int .i64 0,.int .i64 0,.int .i64 1,.int .i64 2,.int .i64 3] 3)).cell? ⟨w3.heap.size,3,none⟩ = some (.int .i64 (1460969 - c)):=by
  rw [((Below.refl (w3.heap.size + 1) (w3.alloc (.cells #[.int .i64 (738000 + a * 7),.int .i64 (b * 5000),.int .i64 0,.int .i64 (1460969 - c)] 3))).alloc (by simp) _).cell (by show w3.heap.size < w3.heap.size + 1; omega),World.cell?_alloc_at _ _ _ _ rfl]; rfl
 have u0 : ((w3.alloc (.cells #[.int .i64 (738000 + a * 7),.int .i64 (b * 5000),.int .i64 0,.int .i64 (1460969 - c)] 3)).alloc (.cells #[.int .i64 0,.int .i64 0,.int .i64 0,.int .i64 1,.int .i64 2,.int .i64 3] 3)).cell? ⟨w3.heap.size + 1,0,none⟩ = some (.int .i64 0):=by rw [World.cell?_alloc_at _ _ _ _ (by simp)]; rfl
 have u1 : ((w3.alloc (.cells #[.int .i64 (738000 + a * 7),.int .i64 (b * 5000),.int .i64 0,.int .i64 (1460969 - c)] 3)).alloc (.cells #[.int .i64 0,.int .i64 0,.int .i64 0,.int .i64 1,.int .i64 2,.int .i64 3] 3)).cell? ⟨w3.heap.size + 1,1,none⟩ = some (.int .i64 0):=by rw [World.cell?_alloc_at _ _ _ _ (by simp)]; rfl
 have u2 : ((w3.alloc (.cells #[.int .i64 (738000 + a * 7),.int .i64 (b * 5000),.int .i64 0,.int .i64 (1460969 - c)] 3)).alloc (.cells #[.int .i64 0,.int .i64 0,.int .i64 0,.int .i64 1,.int .i64 2,.int .i64 3] 3)).cell? ⟨w3.heap.size + 1,2,none⟩ = some (.int .i64 0):=by rw [World.cell?_alloc_at _ _ _ _ (by simp)]; rfl
 have u3 : ((w3.alloc (.cells #[.int .i64 (738000 + a * 7),.int .i64 (b * 5000),.int .i64 0,.int .i64 (1460969 - c)] 3)).alloc (.cells #[.int .i64 0,.int .i64 0,.int .i64 0,.int .i64 1,.int .i64 2,.int .i64 3] 3)).cell? ⟨w3.heap.size + 1,3,none⟩ = some (.int .i64 1):=by rw [World.cell?_alloc_at _ _ _ _ (by simp)]; rfl
 have u4 : ((w3.alloc (.cells #[.int .i64 (738000 + a * 7),.int .i64 (b * 5000),.int .i64 0,.int .i64 (1460969 - c)] 3)).alloc (.cells #[.int .i64 0,.int .i64 0,.int .i64 0,.int .i64 1,.int .i64 2,.int .i64 3] 3)).cell? ⟨w3.heap.size + 1,4,none⟩ = some (.int .i64 2):=by rw [World.cell?_alloc_at _ _ _ _ (by simp)]; rfl
 have u5 : ((w3.alloc (.cells #[.int .i64 (738000 + a * 7),.int .i64 (b * 5000),.int .i64 0,.int .i64 (1460969 - c)] 3)).alloc (.cells #[.int .i64 0,.int .i64 0,.int .i64 0,.int .i64 1,.int .i64 2,.int .i64 3] 3)).cell? ⟨w3.heap.size + 1,5,none⟩ = some (.int .i64 3):=by rw [World.cell?_alloc_at _ _ _ _ (by simp)]; rfl
 clear hg1 hg2 hg3 hr1 hr2 hr3
 go_wp2_with fail
 generalize ((w3.alloc (.cells #[.int .i64 (738000 + a * 7),.int .i64 (b * 5000),.int .i64 0,.int .i64 (1460969 - c)] 3)).alloc (.cells #[.int .i64 0,.int .i64 0,.int .i64 0,.int .i64 1,.int .i64 2,.int .i64 3] 3)) = wA at *
 refine (pick_any g _ _ _ hrA (by omega)).mono ?_;rintro e w5 ⟨z,rfl,hz0,hz6,hr5,hg5⟩;have hgF:=hgA.trans hg5;have s0:=(cell_stb hg5 (i:=0) (show g < w3.heap.size by omega) hz1).trans t0;have s1:=(cell_stb hg5 (i:=1) (show g < w3.heap.size by omega) hz1).trans t1;have s2:=(cell_stb hg5 (i:=2) (show g < w3.heap.size by omega) hz1).trans t2;have s3:=(cell_stb hg5 (i:=3) (show g < w3.heap.size by omega) hz1).trans t3;have v0:=(cell_stb hg5 (i:=0) (show g < w3.heap.size + 1 by omega) hz2).trans u0;have v1:=(cell_stb hg5 (i:=1) (show g < w3.heap.size + 1 by omega) hz2).trans u1;have v2:=(cell_stb hg5 (i:=2) (show g < w3.heap.size + 1 by omega) hz2).trans u2;have v3:=(cell_stb hg5 (i:=3) (show g < w3.heap.size + 1 by omega) hz2).trans u3;have v4:=(cell_stb hg5 (i:=4) (show g < w3.heap.size + 1 by omega) hz2).trans u4;have v5:=(cell_stb hg5 (i:=5) (show g < w3.heap.size + 1 by omega) hz2).trans u5;clear t0 t1 t2 t3 u0 u1 u2 u3 u4 u5 hgA hrA hg13;rcases (by omega : z = 0 ∨ z = 1 ∨ z = 2 ∨ z = 3 ∨ z = 4 ∨ z = 5) with rfl | rfl | rfl | rfl | rfl | rfl
 all_goals
  go_wp2_with fail
  go_ret;exact ⟨_,rfl,by omega,by omega,hr5.more (by omega),hgF⟩
theorem only_drew {a b : World} {row : Option Nat} (h : a.grownBy b row) : a.grownBy b.drew row:=⟨h.os,h.tape,h.output,h.size,h.block⟩
theorem rdr_drew {w : World} {g m : Nat} (h : Rdr w g m) : Rdr w.drew g m:=h
def zs81 : Array Value:=madeCells (Value.int .u8 0).cells (81 * 1)
def str81 : ByteArray:=(List.replicate 81 (0 : Int)).foldl (fun r n => r.push (UInt8.ofNat n.toNat)) ByteArray.empty
theorem fold_sz81 (l : List Int) (s : ByteArray) : (l.foldl (fun r n => r.push (UInt8.ofNat n.toNat)) s).size = s.size + l.length:=by
 induction l generalizing s with
 | nil => rfl
 | cons n l ih => rw [List.foldl_cons,ih,ByteArray.size_push,List.length_cons]; omega
theorem str81_size : str81.size = 81:=by unfold str81; rw [fold_sz81]; rfl
theorem zs81_get {j : Nat} (h : j < 81) : zs81[j]? = some (.int .u8 0):=by
 unfold zs81 madeCells;rw [Array.getElem?_map,Array.getElem?_range,if_pos (by simpa using h)]
 show some _ = _
 congr 1
 show (#[Value.int .u8 0] : Array Value)[j % 1]! = _
 rw [Nat.mod_one]; rfl
theorem info_u8b : (Tryz.prog.info? 5).map (fun i => (i.zero,i.size,i.bytes)) = some (some (.int .u8 0),1,1):=by kernel_rfl
theorem make81 (w : World) : (Instr.makeSlice 40 (.int .i64 81) (.int .i64 81)).run Tryz.prog w = .ok (.slice (some ⟨w.heap.size,0,none⟩) 81 81) (w.alloc (.cells zs81 5)) :=
 mk_run (P:=Tryz.prog) 40 5 _ _ _ Tryz.underlying40 info_u8b 81 (by omega) (by omega) w
def Zer (W : World) (b : Nat) : Prop:=∀ j,j < 81 → W.cell? ⟨b,j,none⟩ = some (.int .u8 0)
theorem conv81 (W : World) (b : Nat) (h : Zer W b) : (convert 40 9 (.slice (some ⟨b,0,none⟩) 81 81)).run Tryz.prog W = .ok (.string str81) W:=by
 rw [run_convert_bytes_string _ 40 9 5 _ _ _ Tryz.underlying40 Tryz.underlying5 Tryz.underlying9]
 have hl:=run_loadCells_list (P:=Tryz.prog) (w:=W) ⟨b,0,none⟩ (List.replicate 81 (Value.int .u8 0)) (fun j v hj => by
  have hj1 : j < 81:=by
   rcases Nat.lt_or_ge j 81 with q | q
   ·exact q
   ·rw [List.getElem?_eq_none (by simpa using q)] at hj; cases hj
  rw [List.getElem?_replicate,if_pos hj1] at hj;obtain rfl : Value.int .u8 0 = v:=by injection hj
  have:=h j hj1;have e : (⟨b,0,none⟩ : Addr).add j = ⟨b,0 + j,none⟩:=by unfold Addr.add; split <;> simp_all
  rw [e,Nat.zero_add]; exact this)
 have hl2 : (loadCells ⟨b,0,none⟩ 81).run Tryz.prog W = .ok ((List.replicate 81 (0 : Int)).map (Value.int .u8)).toArray W:=by
  rw [List.map_replicate]; exact hl
 rw [run_bytesToString W ⟨b,0,none⟩ 81 81 (List.replicate 81 0) hl2];rfl
theorem Zer.new (W : World) : Zer (W.alloc (.cells zs81 5)) W.heap.size:=fun j hj => by rw [World.cell?_alloc_at _ _ _ _ rfl,zs81_get hj]
theorem Zer.on {W W' : World} {b g : Nat} (h : Zer W b) (hg : W.grownBy W' (some g)) (hb : b < W.heap.size) (hne : g < b) : Zer W' b:=fun j hj => by
 rw [World.cell?_of_block (w:=W) (hg.block b hb (fun e => by injection e; omega))]; exact h j hj
theorem Zer.newd (W : World) : Zer (W.alloc (.cells zs81 5)).drew W.heap.size:=Zer.new W
theorem tab_cell_d {w w1 : World} {g : Nat} {cs : Array Value} {e : TypeId} (hg : (w.alloc (.cells cs e)).drew.grownBy w1 (some g)) (h : g < w.heap.size) (i : Nat) : w1.cell? ⟨w.heap.size,i,none⟩ = cs[i]? :=
 tab_cell (w:=w) (cs:=cs) (e:=e) ⟨hg.os,hg.tape,hg.output,hg.size,hg.block⟩ h i
def DrewS (g m b : Nat) (w : World) (e : Ending) (w' : World) : Prop:=∃ s : ByteArray,e = .returned (.string s) ∧ s.size ≤ b ∧ Rdr w' g m ∧ w.grownBy w' (some g)
def tb : Nat → ByteArray
 | 0 => { data:=#[10] }
 | 1 => str81
 | _ => { data:=#[97,127] }
theorem tb_at {z : Nat} (h : z < 3) : (#[.string { data:=#[10] },.string str81,.string { data:=#[97,127] }] : Array Value)[z]? = some (.string (tb z)):=by
 match z,h with
 | 0,_ => rfl
 | 1,_ => rfl
 | 2,_ => rfl
theorem tb_new (W : World) (z : Nat) (h : z < 3) : (W.alloc (.cells #[.string { data:=#[10] },.string str81,.string { data:=#[97,127] }] 9)).cell? ⟨W.heap.size,z,none⟩ = some (.string (tb z)):=by
 rw [World.cell?_alloc_at _ _ _ _ rfl,tb_at h]
theorem tb_size {z : Nat} (h : z < 3) : (tb z).size ≤ 81:=by
 match z,h with
 | 0,_ => decide
 | 1,_ => exact Nat.le_of_eq str81_size
 | 2,_ => decide
set_option maxHeartbeats 1600000 in
theorem l20Text_any (g m : Nat) (n : Int) (w : World) (h : Rdr w g m) (hm : m ≤ 1000000) (hn : 0 ≤ n) (hn2 : n ≤ 1000000) :
    Calls Tryz.prog 138 #[.pointer (some ⟨g,0,none⟩),.int .i64 n] w (DrewS g (m + 2) 81 w):=by
 have hlt:=h.lt;have hm81:=make81;go_enter Tryz.func138,Tryz.ntmps138
 go_wp2_with fail
 refine (odd_any g m _ _ h (by omega) hn hn2).mono ?_;rintro e w1 ⟨q,rfl,hr1,hg1⟩;have hs1:=hg1.size;have htbn:=tb_new;have hcn:=fun W => conv81 _ _ (Zer.new W)
 have hcd:=fun (W : World) => conv81 (W.alloc (.cells zs81 5)).drew W.heap.size (Zer.new W)
 have htbd : ∀ (W : World) (z : Nat),z < 3 → (W.alloc (.cells #[.string { data:=#[10] },.string str81,.string { data:=#[97,127] }] 9)).drew.cell? ⟨W.heap.size,z,none⟩ = some (.string (tb z)):=tb_new;cases q
 ·have hrA:=hr1.alloc (.cells #[.string { data:=#[] },.string { data:=#[104,101,108,108,111,32,119,111,114,108,100] },.string { data:=#[97,60,98,62,99,60,47,98,62,32,38,32,100] },.string { data:=#[79,110,101,32,116,104,105,110,103,46,32,84,119,111,33] },.string { data:=#[34,120,34] },.string { data:=#[115,101,101,32,64,97,110,110,64,114,101,100,32,97,110,100,32,35,110,101,119,115,46] },.string { data:=#[48,49,50,51,52,53,54,55,56,57,48,49,50,51,52,53,54,55,56,57,48,49,50,51,52,53,54,55,56,57,48,49,50,51,52,53,54,55,56,57,48,49,50,51,52,53,54,55,56,57,48,49,50,51,52,53,54,55,56,57,48,49,50,51,52,53,54,55,56,57,48,49,50,51,52,53,54,55,56,57] }] 9)
  go_wp2_with fail
  refine (pick_any g _ _ _ hrA (by omega)).mono ?_;rintro e w3 ⟨z,rfl,hz0,hz1,hr3,hg3⟩;obtain ⟨z,rfl⟩:=Int.eq_ofNat_of_zero_le hz0;have hz : z < 7:=by omega
  have htab:=tab_cell hg3 (by omega);have hel : ∃ t : ByteArray,t.size ≤ 81 ∧ w3.cell? ⟨w1.heap.size,z,none⟩ = some (.string t):=by
   rw [htab z]
   match z,hz with
   | 0,_ => exact ⟨{ data:=#[] },by decide,rfl⟩
   | 1,_ => exact ⟨{ data:=#[104,101,108,108,111,32,119,111,114,108,100] },by decide,rfl⟩
   | 2,_ => exact ⟨{ data:=#[97,60,98,62,99,60,47,98,62,32,38,32,100] },by decide,rfl⟩
   | 3,_ => exact ⟨{ data:=#[79,110,101,32,116,104,105,110,103,46,32,84,119,111,33] },by decide,rfl⟩
   | 4,_ => exact ⟨{ data:=#[34,120,34] },by decide,rfl⟩
   | 5,_ => exact ⟨{ data:=#[115,101,101,32,64,97,110,110,64,114,101,100,32,97,110,100,32,35,110,101,119,115,46] },by decide,rfl⟩
   | 6,_ => exact ⟨{ data:=#[48,49,50,51,52,53,54,55,56,57,48,49,50,51,52,53,54,55,56,57,48,49,50,51,52,53,54,55,56,57,48,49,50,51,52,53,54,55,56,57,48,49,50,51,52,53,54,55,56,57,48,49,50,51,52,53,54,55,56,57,48,49,50,51,52,53,54,55,56,57,48,49,50,51,52,53,54,55,56,57] },by decide,rfl⟩
  obtain ⟨t,ht,hct⟩:=hel;clear htab hz0 hz1;have hw3:=(only_alloc w (some g) hg1 (.cells #[.string { data:=#[] },.string { data:=#[104,101,108,108,111,32,119,111,114,108,100] },.string { data:=#[97,60,98,62,99,60,47,98,62,32,38,32,100] },.string { data:=#[79,110,101,32,116,104,105,110,103,46,32,84,119,111,33] },.string { data:=#[34,120,34] },.string { data:=#[115,101,101,32,64,97,110,110,64,114,101,100,32,97,110,100,32,35,110,101,119,115,46] },.string { data:=#[48,49,50,51,52,53,54,55,56,57,48,49,50,51,52,53,54,55,56,57,48,49,50,51,52,53,54,55,56,57,48,49,50,51,52,53,54,55,56,57,48,49,50,51,52,53,54,55,56,57,48,49,50,51,52,53,54,55,56,57,48,49,50,51,52,53,54,55,56,57,48,49,50,51,52,53,54,55,56,57] }] 9)).trans hg3
  go_wp2_with fail
  go_ret;exact ⟨t,rfl,ht,hr3.more (by omega),hw3⟩
 ·go_wp2_with fail
  go_region_with ((go_at_call 75; refine (pick_any g (m + 1) _ _ (by repeat (first | exact hr1 | refine rdr_drew ?_ | refine Rdr.alloc ?_ _)) (by omega)).mono ?_; rintro e w3 ⟨z,rfl,hz0,hz1,hr3,hg3⟩; obtain ⟨z,rfl⟩:=Int.eq_ofNat_of_zero_le hz0; have hz : z < 3:=(by omega);have hk3 : Hid (w.grownBy w3 (some g)):=Lib.hid (World.grownBy.trans (by repeat (first | exact hg1 | refine only_drew ?_ | refine only_alloc w (some g) ?_ _)) hg3); first | (have ht3 : w3.cell? ⟨w1.heap.size + 1,z,none⟩ = some (.string (tb z)):=(by have h:=(tab_cell_d (w:=w1.alloc (.cells zs81 5)) hg3 (by simp; omega) z).trans (tb_at hz); rwa [World.size_alloc] at h)) | have hz3:=conv81 w3 w1.heap.size (Zer.on (Zer.newd w1) hg3 (by simp) (by omega)) | skip; clear hz0 hz1 hg3))
  all_goals
   go_wp2_with fail
   go_ret;refine ⟨tb z,by first | rfl | (rcases (by omega : z = 0 ∨ z = 1 ∨ z = 2) with rfl | rfl | rfl <;> rfl),tb_size hz,Rdr.more (m:=m + 1 + 1) (by repeat (first | assumption | refine Rdr.alloc ?_ _)) (by omega),by repeat (first | exact hk3.out | refine only_alloc w (some g) ?_ _)⟩
def DrewW (g m : Nat) (w : World) (e : Ending) (w' : World) : Prop:=∃ s : ByteArray,e = .returned (.string s) ∧ s.size ≤ 9 ∧ Rdr w' g (m + 2) ∧ w.grownBy w' (some g)
theorem str_size (l : Array UInt8) (h : l.size ≤ 9) : (ByteArray.mk l).size ≤ 9:=h
set_option maxHeartbeats 400000 in
theorem l20Word_any (g m : Nat) (n : Int) (w : World) (h : Rdr w g m) (hm : m ≤ 1000100) (hn : 0 ≤ n) (hn2 : n ≤ 1000000) :
    Calls Tryz.prog 136 #[.pointer (some ⟨g,0,none⟩),.int .i64 n] w (DrewW g m w):=by
 go_enter Tryz.func136,Tryz.ntmps136
 go_wp2_with fail
 refine (odd_any g m _ _ h (by omega) hn hn2).mono ?_;rintro e w1 ⟨q,rfl,hr1,hg1⟩;cases q
 ·
  have hrA:=hr1.alloc (.cells #[.string { data:=#[97,110,110] },.string { data:=#[98,111,98] },.string { data:=#[114,101,100] },.string { data:=#[115,101,97] },.string { data:=#[107,49] },.string { data:=#[107,50] }] 9)
  go_wp2_with fail
  refine (pick_any g _ _ _ hrA (by omega)).mono ?_;rintro e w3 ⟨z,rfl,hz0,hz1,hr3,hg3⟩;obtain ⟨z,rfl⟩:=Int.eq_ofNat_of_zero_le hz0;have hz : z < 6:=by omega
  have htab:=tab_cell hg3 (by have:=hr1.lt; omega);have hel : ∃ s : ByteArray,s.size ≤ 9 ∧ w3.cell? ⟨w1.heap.size,z,none⟩ = some (.string s):=by
   rw [htab z]
   match z,hz with
   | 0,_ => exact ⟨_,str_size _ (by decide),rfl⟩
   | 1,_ => exact ⟨_,str_size _ (by decide),rfl⟩
   | 2,_ => exact ⟨_,str_size _ (by decide),rfl⟩
   | 3,_ => exact ⟨_,str_size _ (by decide),rfl⟩
   | 4,_ => exact ⟨_,str_size _ (by decide),rfl⟩
   | 5,_ => exact ⟨_,str_size _ (by decide),rfl⟩
  obtain ⟨s,hs,hc⟩:=hel;clear htab hz0 hz1;have hgw:=(only_alloc w (some g) hg1 (.cells #[.string { data:=#[97,110,110] },.string { data:=#[98,111,98] },.string { data:=#[114,101,100] },.string { data:=#[115,101,97] },.string { data:=#[107,49] },.string { data:=#[107,50] }] 9)).trans hg3;clear hg3
  go_wp2_with fail
  go_ret;exact ⟨s,rfl,hs,hr3.more (by omega),hgw⟩
 ·
  have hrA:=hr1.alloc (.cells #[.string { data:=#[] },.string { data:=#[49,97] },.string { data:=#[65] },.string { data:=#[97,32,98] },.string { data:=#[97,98,99,100,101,102,103,104,105] }] 9)
  go_wp2_with fail
  refine (pick_any g _ _ _ hrA (by omega)).mono ?_;rintro e w3 ⟨z,rfl,hz0,hz1,hr3,hg3⟩;obtain ⟨z,rfl⟩:=Int.eq_ofNat_of_zero_le hz0;have hz : z < 5:=by omega
  have htab:=tab_cell hg3 (by have:=hr1.lt; omega);have hel : ∃ s : ByteArray,s.size ≤ 9 ∧ w3.cell? ⟨w1.heap.size,z,none⟩ = some (.string s):=by
   rw [htab z]
   match z,hz with
   | 0,_ => exact ⟨_,str_size _ (by decide),rfl⟩
   | 1,_ => exact ⟨_,str_size _ (by decide),rfl⟩
   | 2,_ => exact ⟨_,str_size _ (by decide),rfl⟩
   | 3,_ => exact ⟨_,str_size _ (by decide),rfl⟩
   | 4,_ => exact ⟨_,str_size _ (by decide),rfl⟩
  obtain ⟨s,hs,hc⟩:=hel;clear htab hz0 hz1;have hgw:=(only_alloc w (some g) hg1 (.cells #[.string { data:=#[] },.string { data:=#[49,97] },.string { data:=#[65] },.string { data:=#[97,32,98] },.string { data:=#[97,98,99,100,101,102,103,104,105] }] 9)).trans hg3;clear hg3
  go_wp2_with fail
  go_ret;exact ⟨s,rfl,hs,hr3.more (by omega),hgw⟩
def DrewIt (g m : Nat) (w : World) (e : Ending) (w' : World) : Prop:=∃ p : ElItem,e = .returned (.agg #[.string p.1,.string p.2.1,.string p.2.2.1,.int .i64 p.2.2.2]) ∧ p.1.size ≤ 81 ∧ p.2.1.size ≤ 81 ∧ p.2.2.1.size ≤ 81 ∧ Rdr w' g m ∧ w.grownBy w' (some g)
theorem keptI {sz e base g cap : Nat} {enc : ElItem → Nat → Value} {w w' : World} {A : Option Addr} {xs : List ElItem} (h : OwnE sz enc e w base A cap xs) (hg : w.grownBy w' (some g)) (hlt : g < base) : OwnE sz enc e w' base A cap xs :=
 Own.kept h hg (by
  cases hA : blk A with
  | none => exact .inl rfl
  | some b => exact .inr (fun e => by injection e with e; have:=(Own.lt h hA).1; omega))
def boxS (B : Nat) : Spec:=fun v w => ∃ b,v = .pointer (some ⟨b,0,none⟩) ∧ OwnE 4 encItem 69 w B (some ⟨b,0,none⟩) 1 [({ data:=#[] },{ data:=#[] },{ data:=#[] },0)]
theorem boxS_stb {g B : Nat} (hg : g < B) : Stb g (boxS B):=fun _ _ _ h ⟨b,h1,h3⟩ => ⟨b,h1,keptI h3 h hg⟩
theorem boxS_new {B : Nat} {w : World} (h : B ≤ w.heap.size) : boxS B (.pointer (some ⟨w.heap.size,0,none⟩)) (w.alloc (.cells #[.string { data:=#[] },.string { data:=#[] },.string { data:=#[] },.int .i64 0] 69)) :=
 ⟨w.heap.size,rfl,Own.more (Own.lit w 69 4 1 #[.string { data:=#[] },.string { data:=#[] },.string { data:=#[] },.int .i64 0] (cE 4 encItem [({ data:=#[] },{ data:=#[] },{ data:=#[] },0)]) (by simp only [maxLen]; omega) rfl) h⟩
theorem setI {w : World} {B b : Nat} {p q : ElItem} (h : OwnE 4 encItem 69 w B (some ⟨b,0,none⟩) 1 [p]) (j : Nat) (_hj : j < 4) (v : Value) (hv : ∀ i,i < 4 → encItem q i = if i = j then v else encItem p i) (hB : B ≤ w.heap.size) :
    OwnE 4 encItem 69 (w.setCell ⟨b,j,none⟩ v) B (some ⟨b,0,none⟩) 1 [q] ∧ Below B w (w.setCell ⟨b,j,none⟩ v):=by
 have s0:=Own.set h rfl (j:=j) v;refine ⟨Own.congr s0.1 (fun i hi => ?_),grown_below s0.2 (fun x hx => (Own.lt h hx).1) hB⟩;have hi4 : i < 4:=by simpa using hi
 have e1 : cE 4 encItem [q] i = encItem q i:=by
  rcases (by omega : i = 0 ∨ i = 1 ∨ i = 2 ∨ i = 3) with rfl | rfl | rfl | rfl <;> rfl
 have e2 : cE 4 encItem [p] i = encItem p i:=by
  rcases (by omega : i = 0 ∨ i = 1 ∨ i = 2 ∨ i = 3) with rfl | rfl | rfl | rfl <;> rfl
 rw [e1,hv i hi4]
 split
 ·rfl
 ·exact e2
set_option maxHeartbeats 1600000 in
theorem l20Item_any (g m : Nat) (n : Int) (w : World) (h : Rdr w g m) (hm : m ≤ 900000) (hn : 0 ≤ n) (hn2 : n ≤ 1000000) :
    Calls Tryz.prog 114 #[.pointer (some ⟨g,0,none⟩),.int .i64 n] w (DrewIt g (m + 12) w):=by
 have hlt:=h.lt;have oR : OwnE 4 encItem 69 (w.alloc (.cells #[.string { data:=#[] },.string { data:=#[] },.string { data:=#[] },.int .i64 0] 69)) w.heap.size (some ⟨w.heap.size,0,none⟩) 1 [({ data:=#[] },{ data:=#[] },{ data:=#[] },0)]:=Own.lit w 69 4 1 #[.string { data:=#[] },.string { data:=#[] },.string { data:=#[] },.int .i64 0] (cE 4 encItem [({ data:=#[] },{ data:=#[] },{ data:=#[] },0)]) (by simp only [maxLen]; omega) rfl;have hgA:=only_alloc w (some g) (World.grownBy.refl _ _) (.cells #[.string { data:=#[] },.string { data:=#[] },.string { data:=#[] },.int .i64 0] 69);have hrA:=h.alloc (.cells #[.string { data:=#[] },.string { data:=#[] },.string { data:=#[] },.int .i64 0] 69);have hzA : w.heap.size < (w.alloc (.cells #[.string { data:=#[] },.string { data:=#[] },.string { data:=#[] },.int .i64 0] 69)).heap.size:=by simp
 go_enter Tryz.func114,Tryz.ntmps114
 go_wp2_with fail
 generalize (w.alloc (.cells #[.string { data:=#[] },.string { data:=#[] },.string { data:=#[] },.int .i64 0] 69)) = wA at *
 refine wp_region_draws g 16 m [(tabS g 5 #[.string { data:=#[107,49] },.string { data:=#[107,50] },.string { data:=#[107,51] },.string { data:=#[107,52] },.string { data:=#[107,53] }]),(vS (fun v => v = .pointer (some ⟨g,0,none⟩))),(vS (natP 5)),(ptrS g (strP 81)),(vS (strP 81)),(tabS g 3 #[.string { data:=#[78,101,119,115] },.string { data:=#[65,32,38,32,66] },.string { data:=#[116] }]),(vS (fun v => v = .pointer (some ⟨g,0,none⟩))),(vS (natP 3)),(ptrS g (strP 81)),(vS (strP 81)),(vS (fun v => v = .pointer (some ⟨g,0,none⟩))),(vS (strP 81)),(vS (fun v => v = .pointer (some ⟨g,0,none⟩))),(vS (intP 0 1460969)),(vS (fun v => ∃ (t u s : ByteArray) (d : Int),v = .agg #[.string t,.string u,.string s,.int .i64 d] ∧ t.size ≤ 81 ∧ u.size ≤ 81 ∧ s.size ≤ 81)),(boxS (w.heap.size + 1))] [0,0,1,0,0,0,0,1,0,0,0,2,0,4,0,0] (by kernel_rfl) (by kernel_rfl) (by rfl) (by rfl) (by rfl) ?_ hrA ?_ ?_
 ·repeat (first | exact stb_nil g | refine stb_cons (by first | exact tabS_stb _ _ _ | exact ptrS_stb _ _ | exact vS_stb _ _ | exact boxS_stb (by omega)) ?_)
 ·simp only [List.take_succ_cons,List.take_zero]
  refine looseSteps_cons (fun k a' w' hk0 hk1 hR hG hkp hd => ?_) ?_
  ·have hgw:=Rdr.lt hG
   unfold looseRun;go_simp;exact ⟨grown_alloc _ _ _,hG.alloc _,tabS_new hgw _ _⟩
  refine looseSteps_cons (fun k a' w' hk0 hk1 hR hG hkp hd => ?_) ?_
  ·have hgw:=Rdr.lt hG
   have k0 : a'.tmps.getD 0 undef = .pointer (some ⟨g,0,none⟩):=hkp 0 (by rfl);unfold looseRun;go_simp;exact ⟨World.grownBy.refl _ _,hG,rfl⟩
  refine looseSteps_cons (fun k a' w' hk0 hk1 hR hG hkp hd => ?_) ?_
  ·have hgw:=Rdr.lt hG
   have e7 : a'.tmps.getD 7 undef = .pointer (some ⟨g,0,none⟩):=hd.1 rfl;unfold looseRun;go_simp;refine ⟨rfl,(pick_any g k _ _ hG (by simp at hk1; omega)).mono ?_⟩;rintro e w2 ⟨z,rfl,hz0,hz1,hr2,hg2⟩;exact ⟨_,rfl,hg2,hr2,z.toNat,by rw [Int.toNat_of_nonneg hz0],by omega⟩
  refine looseSteps_cons (fun k a' w' hk0 hk1 hR hG hkp hd => ?_) ?_
  ·have hgw:=Rdr.lt hG
   obtain ⟨b,e6,hb1,hb2,hbc⟩:=hd.1 rfl;obtain ⟨z,e8,hz⟩:=hd.2.1 rfl;have e6' : a'.tmps.getD 6 undef = _:=e6;have e6q:=e6';rw [Array.getD_eq_getD_getElem?] at e6q;clear e6;have e8' : a'.tmps.getD 8 undef = _:=e8;have e8q:=e8';rw [Array.getD_eq_getD_getElem?] at e8q;clear e8;have hz2 : (z : Int) < 5:=by omega
   have hel : ∃ t : ByteArray,t.size ≤ 81 ∧ (#[.string { data:=#[107,49] },.string { data:=#[107,50] },.string { data:=#[107,51] },.string { data:=#[107,52] },.string { data:=#[107,53] }] : Array Value)[z]? = some (.string t):=by
    match z,hz with
    | 0,_ => exact ⟨{ data:=#[107,49] },by decide,rfl⟩
    | 1,_ => exact ⟨{ data:=#[107,50] },by decide,rfl⟩
    | 2,_ => exact ⟨{ data:=#[107,51] },by decide,rfl⟩
    | 3,_ => exact ⟨{ data:=#[107,52] },by decide,rfl⟩
    | 4,_ => exact ⟨{ data:=#[107,53] },by decide,rfl⟩
   obtain ⟨t,ht,het⟩:=hel;unfold looseRun;go_simp;exact ⟨World.grownBy.refl _ _,hG,b,z,_,rfl,hb1,hb2,(hbc z).trans het,t,rfl,ht⟩
  refine looseSteps_cons (fun k a' w' hk0 hk1 hR hG hkp hd => ?_) ?_
  ·have hgw:=Rdr.lt hG
   obtain ⟨b,i,x,e1,hb1,hb2,hc,t,rfl,ht⟩:=hd.1 rfl;have e2 : a'.tmps.getD 9 undef = _:=e1;clear e1;unfold looseRun;go_simp;exact ⟨World.grownBy.refl _ _,hG,t,rfl,ht⟩
  refine looseSteps_cons (fun k a' w' hk0 hk1 hR hG hkp hd => ?_) ?_
  ·have hgw:=Rdr.lt hG
   unfold looseRun;go_simp;exact ⟨grown_alloc _ _ _,hG.alloc _,tabS_new hgw _ _⟩
  refine looseSteps_cons (fun k a' w' hk0 hk1 hR hG hkp hd => ?_) ?_
  ·have hgw:=Rdr.lt hG
   have k0 : a'.tmps.getD 0 undef = .pointer (some ⟨g,0,none⟩):=hkp 0 (by rfl);unfold looseRun;go_simp;exact ⟨World.grownBy.refl _ _,hG,rfl⟩
  refine looseSteps_cons (fun k a' w' hk0 hk1 hR hG hkp hd => ?_) ?_
  ·have hgw:=Rdr.lt hG
   have e12 : a'.tmps.getD 12 undef = .pointer (some ⟨g,0,none⟩):=hd.1 rfl;unfold looseRun;go_simp;refine ⟨rfl,(pick_any g k _ _ hG (by simp at hk1; omega)).mono ?_⟩;rintro e w2 ⟨z,rfl,hz0,hz1,hr2,hg2⟩;exact ⟨_,rfl,hg2,hr2,z.toNat,by rw [Int.toNat_of_nonneg hz0],by omega⟩
  refine looseSteps_cons (fun k a' w' hk0 hk1 hR hG hkp hd => ?_) ?_
  ·have hgw:=Rdr.lt hG
   obtain ⟨b,e11,hb1,hb2,hbc⟩:=hd.1 rfl;obtain ⟨z,e13,hz⟩:=hd.2.1 rfl;have e11' : a'.tmps.getD 11 undef = _:=e11;have e11q:=e11';rw [Array.getD_eq_getD_getElem?] at e11q;clear e11;have e13' : a'.tmps.getD 13 undef = _:=e13;have e13q:=e13';rw [Array.getD_eq_getD_getElem?] at e13q;clear e13;have hz2 : (z : Int) < 3:=by omega
   have hel : ∃ t : ByteArray,t.size ≤ 81 ∧ (#[.string { data:=#[78,101,119,115] },.string { data:=#[65,32,38,32,66] },.string { data:=#[116] }] : Array Value)[z]? = some (.string t):=by
    match z,hz with
    | 0,_ => exact ⟨{ data:=#[78,101,119,115] },by decide,rfl⟩
    | 1,_ => exact ⟨{ data:=#[65,32,38,32,66] },by decide,rfl⟩
    | 2,_ => exact ⟨{ data:=#[116] },by decide,rfl⟩
   obtain ⟨t,ht,het⟩:=hel;unfold looseRun;go_simp;exact ⟨World.grownBy.refl _ _,hG,b,z,_,rfl,hb1,hb2,(hbc z).trans het,t,rfl,ht⟩
  refine looseSteps_cons (fun k a' w' hk0 hk1 hR hG hkp hd => ?_) ?_
  ·have hgw:=Rdr.lt hG
   obtain ⟨b,i,x,e1,hb1,hb2,hc,t,rfl,ht⟩:=hd.1 rfl;have e2 : a'.tmps.getD 14 undef = _:=e1;clear e1;unfold looseRun;go_simp;exact ⟨World.grownBy.refl _ _,hG,t,rfl,ht⟩
  refine looseSteps_cons (fun k a' w' hk0 hk1 hR hG hkp hd => ?_) ?_
  ·have hgw:=Rdr.lt hG
   have k0 : a'.tmps.getD 0 undef = .pointer (some ⟨g,0,none⟩):=hkp 0 (by rfl);unfold looseRun;go_simp;exact ⟨World.grownBy.refl _ _,hG,rfl⟩
  refine looseSteps_cons (fun k a' w' hk0 hk1 hR hG hkp hd => ?_) ?_
  ·have hgw:=Rdr.lt hG
   have e16 : a'.tmps.getD 16 undef = .pointer (some ⟨g,0,none⟩):=hd.1 rfl;unfold looseRun;go_simp;refine ⟨rfl,(l20Text_any g k _ _ hG (by simp at hk1; omega) (by omega) (by omega)).mono ?_⟩;rintro e w2 ⟨s,rfl,hs,hr2,hg2⟩;exact ⟨_,rfl,hg2,hr2,s,rfl,hs⟩
  refine looseSteps_cons (fun k a' w' hk0 hk1 hR hG hkp hd => ?_) ?_
  ·have hgw:=Rdr.lt hG
   have k0 : a'.tmps.getD 0 undef = .pointer (some ⟨g,0,none⟩):=hkp 0 (by rfl);unfold looseRun;go_simp;exact ⟨World.grownBy.refl _ _,hG,rfl⟩
  refine looseSteps_cons (fun k a' w' hk0 hk1 hR hG hkp hd => ?_) ?_
  ·have hgw:=Rdr.lt hG
   have e18 : a'.tmps.getD 18 undef = .pointer (some ⟨g,0,none⟩):=hd.1 rfl;unfold looseRun;go_simp;refine ⟨rfl,(l20Day_any g k _ hG (by simp at hk1; omega)).mono ?_⟩;rintro e w2 ⟨d,rfl,hd0,hd1,hr2,hg2⟩;exact ⟨_,rfl,hg2,hr2,d,rfl,hd0,hd1⟩
  refine looseSteps_cons (fun k a' w' hk0 hk1 hR hG hkp hd => ?_) ?_
  ·have hgw:=Rdr.lt hG
   obtain ⟨t,e1,ht⟩:=hd.1 rfl;obtain ⟨u,e2,hu⟩:=hd.2.1 rfl;obtain ⟨s,e3,hs⟩:=hd.2.2.1 rfl;obtain ⟨d,e4,_,_⟩:=hd.2.2.2.1 rfl;have e1' : a'.tmps.getD 10 undef = _:=e1;have e1q:=e1';rw [Array.getD_eq_getD_getElem?] at e1q;clear e1;have e2' : a'.tmps.getD 15 undef = _:=e2;have e2q:=e2';rw [Array.getD_eq_getD_getElem?] at e2q;clear e2;have e3' : a'.tmps.getD 17 undef = _:=e3;have e3q:=e3';rw [Array.getD_eq_getD_getElem?] at e3q;clear e3;have e4' : a'.tmps.getD 19 undef = _:=e4;have e4q:=e4';rw [Array.getD_eq_getD_getElem?] at e4q;clear e4;unfold looseRun;go_simp
   first | exact ⟨World.grownBy.refl _ _,hG,t,u,s,d,rfl,ht,hu,hs⟩ | exact ⟨World.grownBy.refl _ _,hG,t,u,s,⟨d,rfl⟩,ht,hu,hs⟩
  refine looseSteps_cons (fun k a' w' hk0 hk1 hR hG hkp hd => ?_) ?_
  ·have hgw:=Rdr.lt hG
   have hR0 : World.grownBy wA.drew w' (some g):=hR;have hsz : wA.heap.size ≤ w'.heap.size:=hR0.size;unfold looseRun;go_simp;exact ⟨grown_alloc _ _ _,hG.alloc _,boxS_new (by omega)⟩
  exact looseSteps_nil
 ·intro w3 hg3 hr3
  simp only [List.take_succ_cons,List.take_zero,List.drop_succ_cons,List.drop_zero];refine looseAll_cons fun v6 h6 => ?_
  refine looseAll_cons fun v7 h7 => ?_
  refine looseAll_cons fun v8 h8 => ?_
  refine looseAll_cons fun v9 h9 => ?_
  refine looseAll_cons fun v10 h10 => ?_
  refine looseAll_cons fun v11 h11 => ?_
  refine looseAll_cons fun v12 h12 => ?_
  refine looseAll_cons fun v13 h13 => ?_
  refine looseAll_cons fun v14 h14 => ?_
  refine looseAll_cons fun v15 h15 => ?_
  refine looseAll_cons fun v16 h16 => ?_
  refine looseAll_cons fun v17 h17 => ?_
  refine looseAll_cons fun v18 h18 => ?_
  refine looseAll_cons fun v19 h19 => ?_
  refine looseAll_cons fun v20 h20 => ?_
  refine looseAll_cons fun v5 h5 => ?_
  refine looseAll_nil ?_;obtain ⟨t,u,s,d,rfl,ht,hu,hs⟩:=h20;obtain ⟨b5,rfl,o5⟩:=h5;simp only [Act.put,List.setIfInBounds_toArray,List.set_cons_zero,List.set_cons_succ];have oR3:=keptI oR hg3 hlt;have hw3:=hgA.trans hg3;have hr3 : Rdr w3 g (m + 8):=hr3;clear h6 h7 h8 h9 h10 h11 h12 h13 h14 h15 h16 h17 h18 h19;have hs3:=hw3.size;have o5_0 : OwnE 4 encItem 69 w3 (w.heap.size + 1) (some ⟨b5,0,none⟩) 1 [({ data:=#[] },{ data:=#[] },{ data:=#[] },0)]:=o5;have hB0 : w.heap.size + 1 ≤ w3.heap.size:=by have:=(Own.lt o5 (b:=b5) rfl); omega
  obtain ⟨o5_1,hb_0⟩:=setI o5_0 (q:=(t,{ data:=#[] },{ data:=#[] },0)) 0 (by omega) (Value.string t) (fun i hi => by rcases (by omega : i = 0 ∨ i = 1 ∨ i = 2 ∨ i = 3) with rfl | rfl | rfl | rfl <;> rfl) (by first | exact hB0 | (simp only [World.size_setCell]; exact hB0));obtain ⟨o5_2,hb_1⟩:=setI o5_1 (q:=(t,u,{ data:=#[] },0)) 1 (by omega) (Value.string u) (fun i hi => by rcases (by omega : i = 0 ∨ i = 1 ∨ i = 2 ∨ i = 3) with rfl | rfl | rfl | rfl <;> rfl) (by first | exact hB0 | (simp only [World.size_setCell]; exact hB0));obtain ⟨o5_3,hb_2⟩:=setI o5_2 (q:=(t,u,s,0)) 2 (by omega) (Value.string s) (fun i hi => by rcases (by omega : i = 0 ∨ i = 1 ∨ i = 2 ∨ i = 3) with rfl | rfl | rfl | rfl <;> rfl) (by first | exact hB0 | (simp only [World.size_setCell]; exact hB0));obtain ⟨o5_4,hb_3⟩:=setI o5_3 (q:=(t,u,s,d)) 3 (by omega) (Value.int .i64 d) (fun i hi => by rcases (by omega : i = 0 ∨ i = 1 ∨ i = 2 ∨ i = 3) with rfl | rfl | rfl | rfl <;> rfl) (by first | exact hB0 | (simp only [World.size_setCell]; exact hB0));have z0 : w3.cell? ⟨b5,0,none⟩ = some (Value.string { data:=#[] }):=o5.cell rfl (j:=0) (by simp);have zf0 : w3.frozen? ⟨b5,0,none⟩ = false:=o5.frozen rfl 0;have z1 : w3.cell? ⟨b5,1,none⟩ = some (Value.string { data:=#[] }):=o5.cell rfl (j:=1) (by simp);have zf1 : w3.frozen? ⟨b5,1,none⟩ = false:=o5.frozen rfl 1;have z2 : w3.cell? ⟨b5,2,none⟩ = some (Value.string { data:=#[] }):=o5.cell rfl (j:=2) (by simp);have zf2 : w3.frozen? ⟨b5,2,none⟩ = false:=o5.frozen rfl 2;have z3 : w3.cell? ⟨b5,3,none⟩ = some (Value.int .i64 0):=o5.cell rfl (j:=3) (by simp);have zf3 : w3.frozen? ⟨b5,3,none⟩ = false:=o5.frozen rfl 3;have hb4:=((hb_0.trans hb_1).trans hb_2).trans hb_3;have oR4:=Own.belowB oR3 hb4 (fun b hb => by simp [blk] at hb; omega);have hr4:=hr3.below hb4 (by omega);have hw4:=only_below hw3 hb4 (by omega);have hs4:=hb4.size;clear hb_0 hb_1 hb_2 hb_3 hb4 o5_0 o5_1 o5_2 o5_3 oR3 hr3 hw3 o5
  go_wp2_with fail
  generalize ((((w3.setCell ⟨b5,0,none⟩ (Value.string t)).setCell ⟨b5,1,none⟩ (Value.string u)).setCell ⟨b5,2,none⟩ (Value.string s)).setCell ⟨b5,3,none⟩ (Value.int .i64 d)) = w4 at *
  refine (odd_any g _ _ _ hr4 (by omega) hn hn2).mono ?_;rintro e w5 ⟨q,rfl,hr5,hg5⟩;have o55:=keptI o5_4 hg5 (by omega);have oR5:=keptI oR4 hg5 hlt;have hw5:=hw4.trans hg5;have hs5:=hg5.size;clear o5_4 oR4 hr4 hw4 hg5;cases q
  ·skip
   have k0 : w5.cell? ⟨b5,0,none⟩ = some (Value.string t):=o55.cell rfl (j:=0) (by simp);have kf0 : w5.frozen? ⟨b5,0,none⟩ = false:=o55.frozen rfl 0;have k1 : w5.cell? ⟨b5,1,none⟩ = some (Value.string u):=o55.cell rfl (j:=1) (by simp);have kf1 : w5.frozen? ⟨b5,1,none⟩ = false:=o55.frozen rfl 1;have k2 : w5.cell? ⟨b5,2,none⟩ = some (Value.string s):=o55.cell rfl (j:=2) (by simp);have kf2 : w5.frozen? ⟨b5,2,none⟩ = false:=o55.frozen rfl 2;have k3 : w5.cell? ⟨b5,3,none⟩ = some (Value.int .i64 d):=o55.cell rfl (j:=3) (by simp);have kf3 : w5.frozen? ⟨b5,3,none⟩ = false:=o55.frozen rfl 3;have r0 : w5.cell? ⟨w.heap.size,0,none⟩ = some (Value.string { data:=#[] }):=oR5.cell rfl (j:=0) (by simp);have rf0 : w5.frozen? ⟨w.heap.size,0,none⟩ = false:=oR5.frozen rfl 0;have r1 : w5.cell? ⟨w.heap.size,1,none⟩ = some (Value.string { data:=#[] }):=oR5.cell rfl (j:=1) (by simp);have rf1 : w5.frozen? ⟨w.heap.size,1,none⟩ = false:=oR5.frozen rfl 1;have r2 : w5.cell? ⟨w.heap.size,2,none⟩ = some (Value.string { data:=#[] }):=oR5.cell rfl (j:=2) (by simp);have rf2 : w5.frozen? ⟨w.heap.size,2,none⟩ = false:=oR5.frozen rfl 2;have r3 : w5.cell? ⟨w.heap.size,3,none⟩ = some (Value.int .i64 0):=oR5.cell rfl (j:=3) (by simp);have rf3 : w5.frozen? ⟨w.heap.size,3,none⟩ = false:=oR5.frozen rfl 3;have hbF : Below w.heap.size w5 ((((w5.setCell ⟨w.heap.size,0,none⟩ (Value.string t)).setCell ⟨w.heap.size,1,none⟩ (Value.string u)).setCell ⟨w.heap.size,2,none⟩ (Value.string s)).setCell ⟨w.heap.size,3,none⟩ (Value.int .i64 d)):=((((Below.refl w.heap.size w5).setCell (Nat.le_refl _) _).setCell (Nat.le_refl _) _).setCell (Nat.le_refl _) _).setCell (Nat.le_refl _) _;have hgF:=Lib.hid (only_below hw5 hbF (Nat.le_refl _));have hrF:=Lib.hid (hr5.below hbF hlt);clear hbF
   go_wp2_with fail
   exact bodyPost_ret (v:=.agg #[.string t,.string u,.string s,.int .i64 d]) (by simp [results,Tryz.results114,go_sem,r0,r1,r2,r3]) rfl ⟨(t,u,s,d),rfl,ht,hu,hs,hrF.out.more (by omega),hgF.out⟩
  ·go_wp2_with fail
   refine (pick_any g _ _ _ hr5 (by omega)).mono ?_;rintro e w6 ⟨z,rfl,hz0,hz1,hr6,hg6⟩;have o56:=keptI o55 hg6 (by omega);have oR6:=keptI oR5 hg6 hlt;have hw6:=hw5.trans hg6;have hs6:=hg6.size;clear o55 oR5 hr5 hw5 hg6;rcases (by omega : z = 0 ∨ z = 1 ∨ z = 2 ∨ z = 3) with rfl | rfl | rfl | rfl
   ·go_wp2_with fail
    refine (l20Word_any g _ _ _ hr6 (by omega) (by omega) (by omega)).mono ?_;rintro e w7 ⟨x,rfl,hx,hr7,hg7⟩;have o57:=keptI o56 hg7 (by omega);have oR7:=keptI oR6 hg7 hlt;have hw7:=hw6.trans hg7;clear o56 oR6 hr6 hw6;have y0 : w7.cell? ⟨b5,0,none⟩ = some (Value.string t):=o57.cell rfl (j:=0) (by simp);have yf0 : w7.frozen? ⟨b5,0,none⟩ = false:=o57.frozen rfl 0;have y1 : w7.cell? ⟨b5,1,none⟩ = some (Value.string u):=o57.cell rfl (j:=1) (by simp);have yf1 : w7.frozen? ⟨b5,1,none⟩ = false:=o57.frozen rfl 1;have y2 : w7.cell? ⟨b5,2,none⟩ = some (Value.string s):=o57.cell rfl (j:=2) (by simp);have yf2 : w7.frozen? ⟨b5,2,none⟩ = false:=o57.frozen rfl 2;have y3 : w7.cell? ⟨b5,3,none⟩ = some (Value.int .i64 d):=o57.cell rfl (j:=3) (by simp);have yf3 : w7.frozen? ⟨b5,3,none⟩ = false:=o57.frozen rfl 3;have hs7:=hg7.size;have hB7 : w.heap.size + 1 ≤ w7.heap.size:=by have:=(Own.lt o57 (b:=b5) rfl); omega
    obtain ⟨o58,hb8⟩:=setI o57 (q:=(x,u,s,d)) 0 (by omega) (Value.string x) (fun i hi => by rcases (by omega : i = 0 ∨ i = 1 ∨ i = 2 ∨ i = 3) with rfl | rfl | rfl | rfl <;> rfl) hB7;have oR8:=Own.belowB oR7 hb8 (fun b hb => by simp [blk] at hb; omega);have hr8:=hr7.below hb8 (by omega);have hw8:=only_below hw7 hb8 (by omega);clear hb8 o57 oR7 hr7 hw7 hg7;have k0 : (w7.setCell ⟨b5,0,none⟩ (Value.string x)).cell? ⟨b5,0,none⟩ = some (Value.string x):=o58.cell rfl (j:=0) (by simp);have kf0 : (w7.setCell ⟨b5,0,none⟩ (Value.string x)).frozen? ⟨b5,0,none⟩ = false:=o58.frozen rfl 0;have k1 : (w7.setCell ⟨b5,0,none⟩ (Value.string x)).cell? ⟨b5,1,none⟩ = some (Value.string u):=o58.cell rfl (j:=1) (by simp);have kf1 : (w7.setCell ⟨b5,0,none⟩ (Value.string x)).frozen? ⟨b5,1,none⟩ = false:=o58.frozen rfl 1;have k2 : (w7.setCell ⟨b5,0,none⟩ (Value.string x)).cell? ⟨b5,2,none⟩ = some (Value.string s):=o58.cell rfl (j:=2) (by simp);have kf2 : (w7.setCell ⟨b5,0,none⟩ (Value.string x)).frozen? ⟨b5,2,none⟩ = false:=o58.frozen rfl 2;have k3 : (w7.setCell ⟨b5,0,none⟩ (Value.string x)).cell? ⟨b5,3,none⟩ = some (Value.int .i64 d):=o58.cell rfl (j:=3) (by simp);have kf3 : (w7.setCell ⟨b5,0,none⟩ (Value.string x)).frozen? ⟨b5,3,none⟩ = false:=o58.frozen rfl 3;have r0 : (w7.setCell ⟨b5,0,none⟩ (Value.string x)).cell? ⟨w.heap.size,0,none⟩ = some (Value.string { data:=#[] }):=oR8.cell rfl (j:=0) (by simp);have rf0 : (w7.setCell ⟨b5,0,none⟩ (Value.string x)).frozen? ⟨w.heap.size,0,none⟩ = false:=oR8.frozen rfl 0;have r1 : (w7.setCell ⟨b5,0,none⟩ (Value.string x)).cell? ⟨w.heap.size,1,none⟩ = some (Value.string { data:=#[] }):=oR8.cell rfl (j:=1) (by simp);have rf1 : (w7.setCell ⟨b5,0,none⟩ (Value.string x)).frozen? ⟨w.heap.size,1,none⟩ = false:=oR8.frozen rfl 1;have r2 : (w7.setCell ⟨b5,0,none⟩ (Value.string x)).cell? ⟨w.heap.size,2,none⟩ = some (Value.string { data:=#[] }):=oR8.cell rfl (j:=2) (by simp);have rf2 : (w7.setCell ⟨b5,0,none⟩ (Value.string x)).frozen? ⟨w.heap.size,2,none⟩ = false:=oR8.frozen rfl 2;have r3 : (w7.setCell ⟨b5,0,none⟩ (Value.string x)).cell? ⟨w.heap.size,3,none⟩ = some (Value.int .i64 0):=oR8.cell rfl (j:=3) (by simp);have rf3 : (w7.setCell ⟨b5,0,none⟩ (Value.string x)).frozen? ⟨w.heap.size,3,none⟩ = false:=oR8.frozen rfl 3;have hbF : Below w.heap.size (w7.setCell ⟨b5,0,none⟩ (Value.string x)) (((((w7.setCell ⟨b5,0,none⟩ (Value.string x)).setCell ⟨w.heap.size,0,none⟩ (Value.string x)).setCell ⟨w.heap.size,1,none⟩ (Value.string u)).setCell ⟨w.heap.size,2,none⟩ (Value.string s)).setCell ⟨w.heap.size,3,none⟩ (Value.int .i64 d)):=((((Below.refl w.heap.size (w7.setCell ⟨b5,0,none⟩ (Value.string x))).setCell (Nat.le_refl _) _).setCell (Nat.le_refl _) _).setCell (Nat.le_refl _) _).setCell (Nat.le_refl _) _;have hgF:=Lib.hid (only_below hw8 hbF (Nat.le_refl _));have hrF:=Lib.hid (hr8.below hbF hlt);clear hbF
    go_wp2_with fail
    exact bodyPost_ret (v:=.agg #[.string x,.string u,.string s,.int .i64 d]) (by simp [results,Tryz.results114,go_sem,r0,r1,r2,r3]) rfl ⟨(x,u,s,d),rfl,(show x.size ≤ 81 by omega),hu,hs,hrF.out.more (by omega),hgF.out⟩
   ·have hrT:=hr6.alloc (.cells #[.string { data:=#[] },.string { data:=#[10] }] 9)
    go_wp2_with fail
    refine (pick_any g _ _ _ hrT (by omega)).mono ?_;rintro e w7 ⟨y,rfl,hy0,hy1,hr7,hg7⟩;obtain ⟨y,rfl⟩:=Int.eq_ofNat_of_zero_le hy0;have hy : y < 2:=by omega
    have htab:=tab_cell hg7 (by omega);obtain ⟨x,hx,hcx⟩ : ∃ x : ByteArray,x.size ≤ 81 ∧ w7.cell? ⟨w6.heap.size,y,none⟩ = some (.string x):=by
     rw [htab y]
     match y,hy with
     | 0,_ => exact ⟨{ data:=#[] },by decide,rfl⟩
     | 1,_ => exact ⟨{ data:=#[10] },by decide,rfl⟩
    clear htab;have o57:=keptI (Own.below o56 ((Below.refl _ _).alloc (Nat.le_refl _) (.cells #[.string { data:=#[] },.string { data:=#[10] }] 9))) hg7 (by omega);have oR7:=keptI (Own.below oR6 ((Below.refl _ _).alloc (Nat.le_refl _) (.cells #[.string { data:=#[] },.string { data:=#[10] }] 9))) hg7 hlt;have hw7:=(only_alloc w (some g) hw6 (.cells #[.string { data:=#[] },.string { data:=#[10] }] 9)).trans hg7;clear o56 oR6 hr6 hw6 hrT;have y0 : w7.cell? ⟨b5,0,none⟩ = some (Value.string t):=o57.cell rfl (j:=0) (by simp);have yf0 : w7.frozen? ⟨b5,0,none⟩ = false:=o57.frozen rfl 0;have y1 : w7.cell? ⟨b5,1,none⟩ = some (Value.string u):=o57.cell rfl (j:=1) (by simp);have yf1 : w7.frozen? ⟨b5,1,none⟩ = false:=o57.frozen rfl 1;have y2 : w7.cell? ⟨b5,2,none⟩ = some (Value.string s):=o57.cell rfl (j:=2) (by simp);have yf2 : w7.frozen? ⟨b5,2,none⟩ = false:=o57.frozen rfl 2;have y3 : w7.cell? ⟨b5,3,none⟩ = some (Value.int .i64 d):=o57.cell rfl (j:=3) (by simp);have yf3 : w7.frozen? ⟨b5,3,none⟩ = false:=o57.frozen rfl 3;have hs7:=hg7.size;have hB7 : w.heap.size + 1 ≤ w7.heap.size:=by have:=(Own.lt o57 (b:=b5) rfl); omega
    obtain ⟨o58,hb8⟩:=setI o57 (q:=(t,x,s,d)) 1 (by omega) (Value.string x) (fun i hi => by rcases (by omega : i = 0 ∨ i = 1 ∨ i = 2 ∨ i = 3) with rfl | rfl | rfl | rfl <;> rfl) hB7;have oR8:=Own.belowB oR7 hb8 (fun b hb => by simp [blk] at hb; omega);have hr8:=hr7.below hb8 (by omega);have hw8:=only_below hw7 hb8 (by omega);clear hb8 o57 oR7 hr7 hw7 hg7;have k0 : (w7.setCell ⟨b5,1,none⟩ (Value.string x)).cell? ⟨b5,0,none⟩ = some (Value.string t):=o58.cell rfl (j:=0) (by simp);have kf0 : (w7.setCell ⟨b5,1,none⟩ (Value.string x)).frozen? ⟨b5,0,none⟩ = false:=o58.frozen rfl 0;have k1 : (w7.setCell ⟨b5,1,none⟩ (Value.string x)).cell? ⟨b5,1,none⟩ = some (Value.string x):=o58.cell rfl (j:=1) (by simp);have kf1 : (w7.setCell ⟨b5,1,none⟩ (Value.string x)).frozen? ⟨b5,1,none⟩ = false:=o58.frozen rfl 1;have k2 : (w7.setCell ⟨b5,1,none⟩ (Value.string x)).cell? ⟨b5,2,none⟩ = some (Value.string s):=o58.cell rfl (j:=2) (by simp);have kf2 : (w7.setCell ⟨b5,1,none⟩ (Value.string x)).frozen? ⟨b5,2,none⟩ = false:=o58.frozen rfl 2;have k3 : (w7.setCell ⟨b5,1,none⟩ (Value.string x)).cell? ⟨b5,3,none⟩ = some (Value.int .i64 d):=o58.cell rfl (j:=3) (by simp);have kf3 : (w7.setCell ⟨b5,1,none⟩ (Value.string x)).frozen? ⟨b5,3,none⟩ = false:=o58.frozen rfl 3;have r0 : (w7.setCell ⟨b5,1,none⟩ (Value.string x)).cell? ⟨w.heap.size,0,none⟩ = some (Value.string { data:=#[] }):=oR8.cell rfl (j:=0) (by simp);have rf0 : (w7.setCell ⟨b5,1,none⟩ (Value.string x)).frozen? ⟨w.heap.size,0,none⟩ = false:=oR8.frozen rfl 0;have r1 : (w7.setCell ⟨b5,1,none⟩ (Value.string x)).cell? ⟨w.heap.size,1,none⟩ = some (Value.string { data:=#[] }):=oR8.cell rfl (j:=1) (by simp);have rf1 : (w7.setCell ⟨b5,1,none⟩ (Value.string x)).frozen? ⟨w.heap.size,1,none⟩ = false:=oR8.frozen rfl 1;have r2 : (w7.setCell ⟨b5,1,none⟩ (Value.string x)).cell? ⟨w.heap.size,2,none⟩ = some (Value.string { data:=#[] }):=oR8.cell rfl (j:=2) (by simp);have rf2 : (w7.setCell ⟨b5,1,none⟩ (Value.string x)).frozen? ⟨w.heap.size,2,none⟩ = false:=oR8.frozen rfl 2;have r3 : (w7.setCell ⟨b5,1,none⟩ (Value.string x)).cell? ⟨w.heap.size,3,none⟩ = some (Value.int .i64 0):=oR8.cell rfl (j:=3) (by simp);have rf3 : (w7.setCell ⟨b5,1,none⟩ (Value.string x)).frozen? ⟨w.heap.size,3,none⟩ = false:=oR8.frozen rfl 3;have hbF : Below w.heap.size (w7.setCell ⟨b5,1,none⟩ (Value.string x)) (((((w7.setCell ⟨b5,1,none⟩ (Value.string x)).setCell ⟨w.heap.size,0,none⟩ (Value.string t)).setCell ⟨w.heap.size,1,none⟩ (Value.string x)).setCell ⟨w.heap.size,2,none⟩ (Value.string s)).setCell ⟨w.heap.size,3,none⟩ (Value.int .i64 d)):=((((Below.refl w.heap.size (w7.setCell ⟨b5,1,none⟩ (Value.string x))).setCell (Nat.le_refl _) _).setCell (Nat.le_refl _) _).setCell (Nat.le_refl _) _).setCell (Nat.le_refl _) _;have hgF:=Lib.hid (only_below hw8 hbF (Nat.le_refl _));have hrF:=Lib.hid (hr8.below hbF hlt);clear hbF
    go_wp2_with fail
    exact bodyPost_ret (v:=.agg #[.string t,.string x,.string s,.int .i64 d]) (by simp [results,Tryz.results114,go_sem,r0,r1,r2,r3]) rfl ⟨(t,x,s,d),rfl,ht,hx,hs,hrF.out.more (by omega),hgF.out⟩
   ·go_wp2_with fail
    refine (l20Text_any g _ _ _ hr6 (by omega) (by omega) (by omega)).mono ?_;rintro e w7 ⟨x,rfl,hx,hr7,hg7⟩;have o57:=keptI o56 hg7 (by omega);have oR7:=keptI oR6 hg7 hlt;have hw7:=hw6.trans hg7;clear o56 oR6 hr6 hw6;have y0 : w7.cell? ⟨b5,0,none⟩ = some (Value.string t):=o57.cell rfl (j:=0) (by simp);have yf0 : w7.frozen? ⟨b5,0,none⟩ = false:=o57.frozen rfl 0;have y1 : w7.cell? ⟨b5,1,none⟩ = some (Value.string u):=o57.cell rfl (j:=1) (by simp);have yf1 : w7.frozen? ⟨b5,1,none⟩ = false:=o57.frozen rfl 1;have y2 : w7.cell? ⟨b5,2,none⟩ = some (Value.string s):=o57.cell rfl (j:=2) (by simp);have yf2 : w7.frozen? ⟨b5,2,none⟩ = false:=o57.frozen rfl 2;have y3 : w7.cell? ⟨b5,3,none⟩ = some (Value.int .i64 d):=o57.cell rfl (j:=3) (by simp);have yf3 : w7.frozen? ⟨b5,3,none⟩ = false:=o57.frozen rfl 3;have hs7:=hg7.size;have hB7 : w.heap.size + 1 ≤ w7.heap.size:=by have:=(Own.lt o57 (b:=b5) rfl); omega
    obtain ⟨o58,hb8⟩:=setI o57 (q:=(t,u,x,d)) 2 (by omega) (Value.string x) (fun i hi => by rcases (by omega : i = 0 ∨ i = 1 ∨ i = 2 ∨ i = 3) with rfl | rfl | rfl | rfl <;> rfl) hB7;have oR8:=Own.belowB oR7 hb8 (fun b hb => by simp [blk] at hb; omega);have hr8:=hr7.below hb8 (by omega);have hw8:=only_below hw7 hb8 (by omega);clear hb8 o57 oR7 hr7 hw7 hg7;have k0 : (w7.setCell ⟨b5,2,none⟩ (Value.string x)).cell? ⟨b5,0,none⟩ = some (Value.string t):=o58.cell rfl (j:=0) (by simp);have kf0 : (w7.setCell ⟨b5,2,none⟩ (Value.string x)).frozen? ⟨b5,0,none⟩ = false:=o58.frozen rfl 0;have k1 : (w7.setCell ⟨b5,2,none⟩ (Value.string x)).cell? ⟨b5,1,none⟩ = some (Value.string u):=o58.cell rfl (j:=1) (by simp);have kf1 : (w7.setCell ⟨b5,2,none⟩ (Value.string x)).frozen? ⟨b5,1,none⟩ = false:=o58.frozen rfl 1;have k2 : (w7.setCell ⟨b5,2,none⟩ (Value.string x)).cell? ⟨b5,2,none⟩ = some (Value.string x):=o58.cell rfl (j:=2) (by simp);have kf2 : (w7.setCell ⟨b5,2,none⟩ (Value.string x)).frozen? ⟨b5,2,none⟩ = false:=o58.frozen rfl 2;have k3 : (w7.setCell ⟨b5,2,none⟩ (Value.string x)).cell? ⟨b5,3,none⟩ = some (Value.int .i64 d):=o58.cell rfl (j:=3) (by simp);have kf3 : (w7.setCell ⟨b5,2,none⟩ (Value.string x)).frozen? ⟨b5,3,none⟩ = false:=o58.frozen rfl 3;have r0 : (w7.setCell ⟨b5,2,none⟩ (Value.string x)).cell? ⟨w.heap.size,0,none⟩ = some (Value.string { data:=#[] }):=oR8.cell rfl (j:=0) (by simp);have rf0 : (w7.setCell ⟨b5,2,none⟩ (Value.string x)).frozen? ⟨w.heap.size,0,none⟩ = false:=oR8.frozen rfl 0;have r1 : (w7.setCell ⟨b5,2,none⟩ (Value.string x)).cell? ⟨w.heap.size,1,none⟩ = some (Value.string { data:=#[] }):=oR8.cell rfl (j:=1) (by simp);have rf1 : (w7.setCell ⟨b5,2,none⟩ (Value.string x)).frozen? ⟨w.heap.size,1,none⟩ = false:=oR8.frozen rfl 1;have r2 : (w7.setCell ⟨b5,2,none⟩ (Value.string x)).cell? ⟨w.heap.size,2,none⟩ = some (Value.string { data:=#[] }):=oR8.cell rfl (j:=2) (by simp);have rf2 : (w7.setCell ⟨b5,2,none⟩ (Value.string x)).frozen? ⟨w.heap.size,2,none⟩ = false:=oR8.frozen rfl 2;have r3 : (w7.setCell ⟨b5,2,none⟩ (Value.string x)).cell? ⟨w.heap.size,3,none⟩ = some (Value.int .i64 0):=oR8.cell rfl (j:=3) (by simp);have rf3 : (w7.setCell ⟨b5,2,none⟩ (Value.string x)).frozen? ⟨w.heap.size,3,none⟩ = false:=oR8.frozen rfl 3;have hbF : Below w.heap.size (w7.setCell ⟨b5,2,none⟩ (Value.string x)) (((((w7.setCell ⟨b5,2,none⟩ (Value.string x)).setCell ⟨w.heap.size,0,none⟩ (Value.string t)).setCell ⟨w.heap.size,1,none⟩ (Value.string u)).setCell ⟨w.heap.size,2,none⟩ (Value.string x)).setCell ⟨w.heap.size,3,none⟩ (Value.int .i64 d)):=((((Below.refl w.heap.size (w7.setCell ⟨b5,2,none⟩ (Value.string x))).setCell (Nat.le_refl _) _).setCell (Nat.le_refl _) _).setCell (Nat.le_refl _) _).setCell (Nat.le_refl _) _;have hgF:=Lib.hid (only_below hw8 hbF (Nat.le_refl _));have hrF:=Lib.hid (hr8.below hbF hlt);clear hbF
    go_wp2_with fail
    exact bodyPost_ret (v:=.agg #[.string t,.string u,.string x,.int .i64 d]) (by simp [results,Tryz.results114,go_sem,r0,r1,r2,r3]) rfl ⟨(t,u,x,d),rfl,ht,hu,hx,hrF.out.more (by omega),hgF.out⟩
   ·have hrT:=hr6.alloc (.cells #[.int .i64 (-1),.int .i64 1460970] 3)
    go_wp2_with fail
    refine (pick_any g _ _ _ hrT (by omega)).mono ?_;rintro e w7 ⟨y,rfl,hy0,hy1,hr7,hg7⟩;obtain ⟨y,rfl⟩:=Int.eq_ofNat_of_zero_le hy0;have hy : y < 2:=by omega
    have htab:=tab_cell hg7 (by omega);obtain ⟨x,hcx⟩ : ∃ x : Int,w7.cell? ⟨w6.heap.size,y,none⟩ = some (.int .i64 x):=by
     rw [htab y]
     match y,hy with
     | 0,_ => exact ⟨-1,rfl⟩
     | 1,_ => exact ⟨1460970,rfl⟩
    clear htab;have o57:=keptI (Own.below o56 ((Below.refl _ _).alloc (Nat.le_refl _) (.cells #[.int .i64 (-1),.int .i64 1460970] 3))) hg7 (by omega);have oR7:=keptI (Own.below oR6 ((Below.refl _ _).alloc (Nat.le_refl _) (.cells #[.int .i64 (-1),.int .i64 1460970] 3))) hg7 hlt;have hw7:=(only_alloc w (some g) hw6 (.cells #[.int .i64 (-1),.int .i64 1460970] 3)).trans hg7;clear o56 oR6 hr6 hw6 hrT;have y0 : w7.cell? ⟨b5,0,none⟩ = some (Value.string t):=o57.cell rfl (j:=0) (by simp);have yf0 : w7.frozen? ⟨b5,0,none⟩ = false:=o57.frozen rfl 0;have y1 : w7.cell? ⟨b5,1,none⟩ = some (Value.string u):=o57.cell rfl (j:=1) (by simp);have yf1 : w7.frozen? ⟨b5,1,none⟩ = false:=o57.frozen rfl 1;have y2 : w7.cell? ⟨b5,2,none⟩ = some (Value.string s):=o57.cell rfl (j:=2) (by simp);have yf2 : w7.frozen? ⟨b5,2,none⟩ = false:=o57.frozen rfl 2;have y3 : w7.cell? ⟨b5,3,none⟩ = some (Value.int .i64 d):=o57.cell rfl (j:=3) (by simp);have yf3 : w7.frozen? ⟨b5,3,none⟩ = false:=o57.frozen rfl 3;have hs7:=hg7.size;have hB7 : w.heap.size + 1 ≤ w7.heap.size:=by have:=(Own.lt o57 (b:=b5) rfl); omega
    obtain ⟨o58,hb8⟩:=setI o57 (q:=(t,u,s,x)) 3 (by omega) (Value.int .i64 x) (fun i hi => by rcases (by omega : i = 0 ∨ i = 1 ∨ i = 2 ∨ i = 3) with rfl | rfl | rfl | rfl <;> rfl) hB7;have oR8:=Own.belowB oR7 hb8 (fun b hb => by simp [blk] at hb; omega);have hr8:=hr7.below hb8 (by omega);have hw8:=only_below hw7 hb8 (by omega);clear hb8 o57 oR7 hr7 hw7 hg7;have k0 : (w7.setCell ⟨b5,3,none⟩ (Value.int .i64 x)).cell? ⟨b5,0,none⟩ = some (Value.string t):=o58.cell rfl (j:=0) (by simp);have kf0 : (w7.setCell ⟨b5,3,none⟩ (Value.int .i64 x)).frozen? ⟨b5,0,none⟩ = false:=o58.frozen rfl 0;have k1 : (w7.setCell ⟨b5,3,none⟩ (Value.int .i64 x)).cell? ⟨b5,1,none⟩ = some (Value.string u):=o58.cell rfl (j:=1) (by simp);have kf1 : (w7.setCell ⟨b5,3,none⟩ (Value.int .i64 x)).frozen? ⟨b5,1,none⟩ = false:=o58.frozen rfl 1;have k2 : (w7.setCell ⟨b5,3,none⟩ (Value.int .i64 x)).cell? ⟨b5,2,none⟩ = some (Value.string s):=o58.cell rfl (j:=2) (by simp);have kf2 : (w7.setCell ⟨b5,3,none⟩ (Value.int .i64 x)).frozen? ⟨b5,2,none⟩ = false:=o58.frozen rfl 2;have k3 : (w7.setCell ⟨b5,3,none⟩ (Value.int .i64 x)).cell? ⟨b5,3,none⟩ = some (Value.int .i64 x):=o58.cell rfl (j:=3) (by simp);have kf3 : (w7.setCell ⟨b5,3,none⟩ (Value.int .i64 x)).frozen? ⟨b5,3,none⟩ = false:=o58.frozen rfl 3;have r0 : (w7.setCell ⟨b5,3,none⟩ (Value.int .i64 x)).cell? ⟨w.heap.size,0,none⟩ = some (Value.string { data:=#[] }):=oR8.cell rfl (j:=0) (by simp);have rf0 : (w7.setCell ⟨b5,3,none⟩ (Value.int .i64 x)).frozen? ⟨w.heap.size,0,none⟩ = false:=oR8.frozen rfl 0;have r1 : (w7.setCell ⟨b5,3,none⟩ (Value.int .i64 x)).cell? ⟨w.heap.size,1,none⟩ = some (Value.string { data:=#[] }):=oR8.cell rfl (j:=1) (by simp);have rf1 : (w7.setCell ⟨b5,3,none⟩ (Value.int .i64 x)).frozen? ⟨w.heap.size,1,none⟩ = false:=oR8.frozen rfl 1;have r2 : (w7.setCell ⟨b5,3,none⟩ (Value.int .i64 x)).cell? ⟨w.heap.size,2,none⟩ = some (Value.string { data:=#[] }):=oR8.cell rfl (j:=2) (by simp);have rf2 : (w7.setCell ⟨b5,3,none⟩ (Value.int .i64 x)).frozen? ⟨w.heap.size,2,none⟩ = false:=oR8.frozen rfl 2;have r3 : (w7.setCell ⟨b5,3,none⟩ (Value.int .i64 x)).cell? ⟨w.heap.size,3,none⟩ = some (Value.int .i64 0):=oR8.cell rfl (j:=3) (by simp);have rf3 : (w7.setCell ⟨b5,3,none⟩ (Value.int .i64 x)).frozen? ⟨w.heap.size,3,none⟩ = false:=oR8.frozen rfl 3;have hbF : Below w.heap.size (w7.setCell ⟨b5,3,none⟩ (Value.int .i64 x)) (((((w7.setCell ⟨b5,3,none⟩ (Value.int .i64 x)).setCell ⟨w.heap.size,0,none⟩ (Value.string t)).setCell ⟨w.heap.size,1,none⟩ (Value.string u)).setCell ⟨w.heap.size,2,none⟩ (Value.string s)).setCell ⟨w.heap.size,3,none⟩ (Value.int .i64 x)):=((((Below.refl w.heap.size (w7.setCell ⟨b5,3,none⟩ (Value.int .i64 x))).setCell (Nat.le_refl _) _).setCell (Nat.le_refl _) _).setCell (Nat.le_refl _) _).setCell (Nat.le_refl _) _;have hgF:=Lib.hid (only_below hw8 hbF (Nat.le_refl _));have hrF:=Lib.hid (hr8.below hbF hlt);clear hbF
    go_wp2_with fail
    exact bodyPost_ret (v:=.agg #[.string t,.string u,.string s,.int .i64 x]) (by simp [results,Tryz.results114,go_sem,r0,r1,r2,r3]) rfl ⟨(t,u,s,x),rfl,ht,hu,hs,hrF.out.more (by omega),hgF.out⟩
def DrewFd (g m : Nat) (w : World) (e : Ending) (w' : World) : Prop:=∃ (A : Option Addr) (cap : Nat) (xs : List ElItem),e = .returned (.slice A xs.length cap) ∧ xs.length ≤ 7 ∧ (∀ x ∈ xs,x.1.size ≤ 81 ∧ x.2.1.size ≤ 81 ∧ x.2.2.1.size ≤ 81) ∧ OwnE 4 encItem 69 w' w.heap.size A cap xs ∧ Rdr w' g m ∧ w.grownBy w' (some g)
theorem add_szI {xs : List ElItem} (h : ∀ x ∈ xs,x.1.size ≤ 81 ∧ x.2.1.size ≤ 81 ∧ x.2.2.1.size ≤ 81) {y : ElItem} (hy : y.1.size ≤ 81 ∧ y.2.1.size ≤ 81 ∧ y.2.2.1.size ≤ 81) : ∀ x ∈ xs ++ [y],x.1.size ≤ 81 ∧ x.2.1.size ≤ 81 ∧ x.2.2.1.size ≤ 81:=fun x hx => (List.mem_append.1 hx).elim (h x) (fun e => by rw [List.mem_singleton] at e; subst e; exact hy)
theorem sz81 {s : ByteArray} (h : s.size ≤ 81) : s.size ≤ maxLen:=by simp only [maxLen]; omega
theorem szI_max {xs : List ElItem} (h : ∀ x ∈ xs,x.1.size ≤ 81 ∧ x.2.1.size ≤ 81 ∧ x.2.2.1.size ≤ 81) : ∀ k,k < xs.length → (gt xs k).1.size ≤ maxLen ∧ (gt xs k).2.1.size ≤ maxLen ∧ (gt xs k).2.2.1.size ≤ maxLen:=fun _k hk =>
 have q:=h _ (gt_mem hk); ⟨sz81 q.1,sz81 q.2.1,sz81 q.2.2⟩
set_option maxHeartbeats 3200000 in
theorem l20Feed_any (g m : Nat) (n : Int) (w : World) (h : Rdr w g m) (hm : m ≤ 800000) (hn : 0 ≤ n) (hn2 : n ≤ 1000000) :
    Calls Tryz.prog 111 #[.pointer (some ⟨g,0,none⟩),.int .i64 n] w (DrewFd g (m + 100) w):=by
 have hlt:=h.lt;go_enter Tryz.func111,Tryz.ntmps111
 go_wp2_with fail
 refine (pick_any g m _ _ (h.alloc _) (by omega)).mono ?_;rintro e w1 ⟨y,rfl,hy0,hy1,hr1,hg1⟩;obtain ⟨y0,rfl⟩:=Int.eq_ofNat_of_zero_le hy0;have hyb : y0 ≤ 6:=by omega
 have ho1 : OwnE 4 encItem 69 w1 w.heap.size (some ⟨w.heap.size,0,none⟩) 0 ([] : List ElItem):=keptI (xs:=[]) (Own.lit w 69 4 0 #[] (cE 4 encItem ([] : List ElItem)) (Nat.zero_le _) rfl) hg1 hlt;have hw1:=(only_alloc w (some g) (World.grownBy.refl _ _) _).trans hg1;clear hy0 hy1 hg1
 go_wp2_with fail
 go_loopw [5,6,7] (fun v i _ wr => ∃ (c y : Nat) (T : Option Addr) (cap : Nat) (cur : List ElItem),c + y ≤ 6 ∧ i = .int .i64 y ∧ v = .slice T cur.length cap ∧ cur.length ≤ c ∧ Hid (∀ x ∈ cur,x.1.size ≤ 81 ∧ x.2.1.size ≤ 81 ∧ x.2.2.1.size ≤ 81) ∧ OwnE 4 encItem 69 wr w.heap.size T cap cur ∧ Rdr wr g (m + 1 + 12 * c) ∧ w.grownBy wr (some g)) (fun _ i _ _ => (intOf i).toNat)
 case atStart => exact ⟨0,y0,_,0,[],by omega,rfl,rfl,by simp,Lib.hid (fun x hx => by cases hx),ho1,hr1,hw1⟩
 case round =>
  obtain ⟨c,y,T,cap,cur,hcy,rfl,rfl,hcl,HSZ,hown,hr,hw⟩:=hrel;clear ho1 hr1 hw1;have hsz:=hw.size;by_cases hlt2 : 0 < y
  ·obtain ⟨y,rfl⟩ : ∃ z,y = z + 1:=⟨y - 1,by omega⟩
   have hd : decide (0 < ((y + 1 : Nat) : Int)) = true:=decide_eq_true (by omega)
   go_wp2_with fail
   refine (l20Item_any g _ _ _ hr (by omega) (by omega) (by omega)).mono ?_;rintro e w5 ⟨p,rfl,hp0,hp1,hp2,hr5,hg5⟩;have hown5:=keptI hown hg5 hlt;have hw5:=hw.trans hg5;have hs5:=hw5.size;have hownX:=Own.below hown5 ((Below.refl _ _).alloc (Nat.le_refl _) (.cells #[.string p.1,.string p.2.1,.string p.2.2.1,.int .i64 p.2.2.2] 69));have hwX:=only_alloc w (some g) hw5 (.cells #[.string p.1,.string p.2.1,.string p.2.2.1,.int .i64 p.2.2.2] 69);have hrX:=hr5.alloc (.cells #[.string p.1,.string p.2.1,.string p.2.2.1,.int .i64 p.2.2.2] 69);have hzX : w5.heap.size < (w5.alloc (.cells #[.string p.1,.string p.2.1,.string p.2.2.1,.int .i64 p.2.2.2] 69)).heap.size:=by simp
   have hhi : Hid (∀ b,blk T = some b → b < w5.heap.size):=Lib.hid (fun b hb => (Own.lt hown5 hb).2);have s0 : (w5.alloc (.cells #[.string p.1,.string p.2.1,.string p.2.2.1,.int .i64 p.2.2.2] 69)).cell? ⟨w5.heap.size,0,none⟩ = some (Value.string p.1):=by rw [World.cell?_alloc_at _ _ _ _ rfl]; rfl
   have s1 : (w5.alloc (.cells #[.string p.1,.string p.2.1,.string p.2.2.1,.int .i64 p.2.2.2] 69)).cell? ⟨w5.heap.size,1,none⟩ = some (Value.string p.2.1):=by rw [World.cell?_alloc_at _ _ _ _ rfl]; rfl
   have s2 : (w5.alloc (.cells #[.string p.1,.string p.2.1,.string p.2.2.1,.int .i64 p.2.2.2] 69)).cell? ⟨w5.heap.size,2,none⟩ = some (Value.string p.2.2.1):=by rw [World.cell?_alloc_at _ _ _ _ rfl]; rfl
   have s3 : (w5.alloc (.cells #[.string p.1,.string p.2.1,.string p.2.2.1,.int .i64 p.2.2.2] 69)).cell? ⟨w5.heap.size,3,none⟩ = some (Value.int .i64 p.2.2.2):=by rw [World.cell?_alloc_at _ _ _ _ rfl]; rfl
   clear hown hr hw hown5 hw5 hr5 hg5
   go_wp2_with fail
   generalize (w5.alloc (.cells #[.string p.1,.string p.2.1,.string p.2.2.1,.int .i64 p.2.2.2] 69)) = W at *
   have hempA : Own (W.alloc (.cells #[] 69)) W.heap.size 69 4 (some ⟨W.heap.size,0,none⟩) 0 0 (cE 4 encItem ([] : List ElItem)):=Own.more (Own.lit W 69 4 0 #[] (cE 4 encItem ([] : List ElItem)) (Nat.zero_le _) rfl) (by first | omega | (simp; done) | (simp; omega));have hempB : Own ((W.alloc (.cells #[] 69)).alloc (.cells #[.string p.1,.string p.2.1,.string p.2.2.1,.int .i64 p.2.2.2] 69)) W.heap.size 69 4 (some ⟨W.heap.size,0,none⟩) 0 0 (cE 4 encItem ([] : List ElItem)):=Own.below hempA ((Below.refl _ _).alloc (Nat.le_refl _) _);have hempC : Own ((W.alloc (.cells #[.string p.1,.string p.2.1,.string p.2.2.1,.int .i64 p.2.2.2] 69)).alloc (.cells #[] 69)) W.heap.size 69 4 (some ⟨W.heap.size + 1,0,none⟩) 0 0 (cE 4 encItem ([] : List ElItem)):=by
    have:=Own.lit (W.alloc (.cells #[.string p.1,.string p.2.1,.string p.2.2.1,.int .i64 p.2.2.2] 69)) 69 4 0 #[] (cE 4 encItem ([] : List ElItem)) (Nat.zero_le _) rfl;rw [show ((W.alloc (.cells #[.string p.1,.string p.2.1,.string p.2.2.1,.int .i64 p.2.2.2] 69))).heap.size = W.heap.size + 1 by simp] at this;exact Own.more this (by omega)
   have hgA : Below W.heap.size W (W.alloc (.cells #[] 69)):=(Below.refl W.heap.size W).alloc (by omega) _;have hgB : Below W.heap.size W ((W.alloc (.cells #[] 69)).alloc (.cells #[.string p.1,.string p.2.1,.string p.2.2.1,.int .i64 p.2.2.2] 69)):=hgA.alloc (by first | omega | (simp; done) | (simp; omega)) _;have hgP : Below W.heap.size W (W.alloc (.cells #[.string p.1,.string p.2.1,.string p.2.2.1,.int .i64 p.2.2.2] 69)):=(Below.refl W.heap.size W).alloc (by omega) _;have hgC : Below W.heap.size W ((W.alloc (.cells #[.string p.1,.string p.2.1,.string p.2.2.1,.int .i64 p.2.2.2] 69)).alloc (.cells #[] 69)):=hgP.alloc (by first | omega | (simp; done) | (simp; omega)) _;have qa0:=(hgA.cell (p:=⟨w5.heap.size,0,none⟩) (by show w5.heap.size < W.heap.size; omega)).trans s0;have qa1:=(hgA.cell (p:=⟨w5.heap.size,1,none⟩) (by show w5.heap.size < W.heap.size; omega)).trans s1;have qa2:=(hgA.cell (p:=⟨w5.heap.size,2,none⟩) (by show w5.heap.size < W.heap.size; omega)).trans s2;have qa3:=(hgA.cell (p:=⟨w5.heap.size,3,none⟩) (by show w5.heap.size < W.heap.size; omega)).trans s3;have qb0:=(hgB.cell (p:=⟨w5.heap.size,0,none⟩) (by show w5.heap.size < W.heap.size; omega)).trans s0;have qb1:=(hgB.cell (p:=⟨w5.heap.size,1,none⟩) (by show w5.heap.size < W.heap.size; omega)).trans s1;have qb2:=(hgB.cell (p:=⟨w5.heap.size,2,none⟩) (by show w5.heap.size < W.heap.size; omega)).trans s2;have qb3:=(hgB.cell (p:=⟨w5.heap.size,3,none⟩) (by show w5.heap.size < W.heap.size; omega)).trans s3;have qp0:=(hgP.cell (p:=⟨w5.heap.size,0,none⟩) (by show w5.heap.size < W.heap.size; omega)).trans s0;have qp1:=(hgP.cell (p:=⟨w5.heap.size,1,none⟩) (by show w5.heap.size < W.heap.size; omega)).trans s1;have qp2:=(hgP.cell (p:=⟨w5.heap.size,2,none⟩) (by show w5.heap.size < W.heap.size; omega)).trans s2;have qp3:=(hgP.cell (p:=⟨w5.heap.size,3,none⟩) (by show w5.heap.size < W.heap.size; omega)).trans s3;have qc0:=(hgC.cell (p:=⟨w5.heap.size,0,none⟩) (by show w5.heap.size < W.heap.size; omega)).trans s0;have qc1:=(hgC.cell (p:=⟨w5.heap.size,1,none⟩) (by show w5.heap.size < W.heap.size; omega)).trans s1;have qc2:=(hgC.cell (p:=⟨w5.heap.size,2,none⟩) (by show w5.heap.size < W.heap.size; omega)).trans s2;have qc3:=(hgC.cell (p:=⟨w5.heap.size,3,none⟩) (by show w5.heap.size < W.heap.size; omega)).trans s3;have hrdW : RdE 4 encItem W W.heap.size T cur:=OwnE.rd hownX;have hrA : RdE 4 encItem (W.alloc (.cells #[] 69)) W.heap.size T cur:=hrdW.below hgA;have hrB : RdE 4 encItem ((W.alloc (.cells #[] 69)).alloc (.cells #[.string p.1,.string p.2.1,.string p.2.2.1,.int .i64 p.2.2.2] 69)) W.heap.size T cur:=hrdW.below hgB;have hrC : RdE 4 encItem ((W.alloc (.cells #[.string p.1,.string p.2.1,.string p.2.2.1,.int .i64 p.2.2.2] 69)).alloc (.cells #[] 69)) W.heap.size T cur:=hrdW.below hgC;have hxB : ∀ j,j < 4 → (((W.alloc (.cells #[] 69)).alloc (.cells #[.string p.1,.string p.2.1,.string p.2.2.1,.int .i64 p.2.2.2] 69))).cell? ⟨W.heap.size + 1,j,none⟩ = some (encItem p j):=fun j hj => by
    rw [World.cell?_alloc_at _ _ _ _ (by simp)]; rcases (by omega : j = 0 ∨ j = 1 ∨ j = 2 ∨ j = 3) with rfl | rfl | rfl | rfl <;> rfl
   have hxC : ∀ j,j < 4 → (((W.alloc (.cells #[.string p.1,.string p.2.1,.string p.2.2.1,.int .i64 p.2.2.2] 69)).alloc (.cells #[] 69))).cell? ⟨W.heap.size,j,none⟩ = some (encItem p j):=fun j hj => by
    rw [((Below.refl (W.heap.size + 1) (W.alloc (.cells #[.string p.1,.string p.2.1,.string p.2.2.1,.int .i64 p.2.2.2] 69))).alloc (by simp) _).cell (by show W.heap.size < W.heap.size + 1; omega),World.cell?_alloc_at _ _ _ _ rfl]; rcases (by omega : j = 0 ∨ j = 1 ∨ j = 2 ∨ j = 3) with rfl | rfl | rfl | rfl <;> rfl
   have szA : ((W.alloc (.cells #[] 69))).drew.heap.size = W.heap.size + 1:=by simp
   have szB : (((W.alloc (.cells #[] 69)).alloc (.cells #[.string p.1,.string p.2.1,.string p.2.2.1,.int .i64 p.2.2.2] 69))).drew.heap.size = W.heap.size + 1 + 1:=by simp
   have szC : (((W.alloc (.cells #[.string p.1,.string p.2.1,.string p.2.2.1,.int .i64 p.2.2.2] 69)).alloc (.cells #[] 69))).drew.heap.size = W.heap.size + 1 + 1:=by simp
   replace hempA : Own ((W.alloc (.cells #[] 69))).drew W.heap.size 69 4 (some ⟨W.heap.size,0,none⟩) 0 0 (cE 4 encItem ([] : List ElItem)):=hempA;replace hrA : RdE 4 encItem ((W.alloc (.cells #[] 69))).drew W.heap.size T cur:=hrA;have hbeA:=hgA.drew;replace qa0 : (((W.alloc (.cells #[] 69))).drew).cell? ⟨w5.heap.size,0,none⟩ = some (Value.string p.1):=qa0;replace qa1 : (((W.alloc (.cells #[] 69))).drew).cell? ⟨w5.heap.size,1,none⟩ = some (Value.string p.2.1):=qa1;replace qa2 : (((W.alloc (.cells #[] 69))).drew).cell? ⟨w5.heap.size,2,none⟩ = some (Value.string p.2.2.1):=qa2;replace qa3 : (((W.alloc (.cells #[] 69))).drew).cell? ⟨w5.heap.size,3,none⟩ = some (Value.int .i64 p.2.2.2):=qa3;replace hempB : Own (((W.alloc (.cells #[] 69)).alloc (.cells #[.string p.1,.string p.2.1,.string p.2.2.1,.int .i64 p.2.2.2] 69))).drew W.heap.size 69 4 (some ⟨W.heap.size,0,none⟩) 0 0 (cE 4 encItem ([] : List ElItem)):=hempB;replace hrB : RdE 4 encItem (((W.alloc (.cells #[] 69)).alloc (.cells #[.string p.1,.string p.2.1,.string p.2.2.1,.int .i64 p.2.2.2] 69))).drew W.heap.size T cur:=hrB;have hbeB:=hgB.drew;replace qb0 : ((((W.alloc (.cells #[] 69)).alloc (.cells #[.string p.1,.string p.2.1,.string p.2.2.1,.int .i64 p.2.2.2] 69))).drew).cell? ⟨w5.heap.size,0,none⟩ = some (Value.string p.1):=qb0;replace qb1 : ((((W.alloc (.cells #[] 69)).alloc (.cells #[.string p.1,.string p.2.1,.string p.2.2.1,.int .i64 p.2.2.2] 69))).drew).cell? ⟨w5.heap.size,1,none⟩ = some (Value.string p.2.1):=qb1;replace qb2 : ((((W.alloc (.cells #[] 69)).alloc (.cells #[.string p.1,.string p.2.1,.string p.2.2.1,.int .i64 p.2.2.2] 69))).drew).cell? ⟨w5.heap.size,2,none⟩ = some (Value.string p.2.2.1):=qb2;replace qb3 : ((((W.alloc (.cells #[] 69)).alloc (.cells #[.string p.1,.string p.2.1,.string p.2.2.1,.int .i64 p.2.2.2] 69))).drew).cell? ⟨w5.heap.size,3,none⟩ = some (Value.int .i64 p.2.2.2):=qb3;replace hempC : Own (((W.alloc (.cells #[.string p.1,.string p.2.1,.string p.2.2.1,.int .i64 p.2.2.2] 69)).alloc (.cells #[] 69))).drew W.heap.size 69 4 (some ⟨W.heap.size + 1,0,none⟩) 0 0 (cE 4 encItem ([] : List ElItem)):=hempC;replace hrC : RdE 4 encItem (((W.alloc (.cells #[.string p.1,.string p.2.1,.string p.2.2.1,.int .i64 p.2.2.2] 69)).alloc (.cells #[] 69))).drew W.heap.size T cur:=hrC;have hbeC:=hgC.drew;replace qc0 : ((((W.alloc (.cells #[.string p.1,.string p.2.1,.string p.2.2.1,.int .i64 p.2.2.2] 69)).alloc (.cells #[] 69))).drew).cell? ⟨w5.heap.size,0,none⟩ = some (Value.string p.1):=qc0;replace qc1 : ((((W.alloc (.cells #[.string p.1,.string p.2.1,.string p.2.2.1,.int .i64 p.2.2.2] 69)).alloc (.cells #[] 69))).drew).cell? ⟨w5.heap.size,1,none⟩ = some (Value.string p.2.1):=qc1;replace qc2 : ((((W.alloc (.cells #[.string p.1,.string p.2.1,.string p.2.2.1,.int .i64 p.2.2.2] 69)).alloc (.cells #[] 69))).drew).cell? ⟨w5.heap.size,2,none⟩ = some (Value.string p.2.2.1):=qc2;replace qc3 : ((((W.alloc (.cells #[.string p.1,.string p.2.1,.string p.2.2.1,.int .i64 p.2.2.2] 69)).alloc (.cells #[] 69))).drew).cell? ⟨w5.heap.size,3,none⟩ = some (Value.int .i64 p.2.2.2):=qc3;replace hxB : ∀ j,j < 4 → ((((W.alloc (.cells #[] 69)).alloc (.cells #[.string p.1,.string p.2.1,.string p.2.2.1,.int .i64 p.2.2.2] 69))).drew).cell? ⟨W.heap.size + 1,j,none⟩ = some (encItem p j):=hxB;replace hxC : ∀ j,j < 4 → ((((W.alloc (.cells #[.string p.1,.string p.2.1,.string p.2.2.1,.int .i64 p.2.2.2] 69)).alloc (.cells #[] 69))).drew).cell? ⟨W.heap.size,j,none⟩ = some (encItem p j):=hxC;clear hgA hgB hgP hgC hrdW;have hlq : (cur ++ [p]).length = cur.length + 1:=by simp
   have HLQ:=Lib.hid hlq;have HQS:=Lib.hid (szI_max (add_szI HSZ.out (y:=p) ⟨hp0,hp1,hp2⟩));clear hlq;cases hq : fdB (cur ++ [p])
   ·have HQ:=Lib.hid hq
    clear hq
    go_wp2_with fail
    go_region_held3 (fun w' => w'.cell? ⟨w5.heap.size,0,none⟩ = some (Value.string p.1) ∧ w'.cell? ⟨w5.heap.size,1,none⟩ = some (Value.string p.2.1) ∧ w'.cell? ⟨w5.heap.size,2,none⟩ = some (Value.string p.2.2.1) ∧ w'.cell? ⟨w5.heap.size,3,none⟩ = some (Value.int .i64 p.2.2.2)) (first | exact ⟨s0,s1,s2,s3⟩ | exact ⟨qa0,qa1,qa2,qa3⟩ | exact ⟨qb0,qb1,qb2,qb3⟩ | exact ⟨qc0,qc1,qc2,qc3⟩ | exact ⟨qp0,qp1,qp2,qp3⟩ | exact ⟨t0,t1,t2,t3⟩ | exact ⟨v0,v1,v2,v3⟩ | exact ⟨x0,x1,x2,x3⟩ | go_keep) (first
     | (refine step_app (by rfl) (.tmp 17) (.tmp 18) _ (by rfl) W.heap.size 69 _ 4 56 Tryz.underlying30 info_Item rfl (by omega) (some ⟨W.heap.size,0,none⟩) T 0 0 cur.length cap _ (cE 4 encItem ([] : List ElItem)) (cE 4 encItem cur) (by simp [go_sem]) (by simp [go_sem]) hempA hrA (fun _ _ => encItem_one _ _) (by simp only [maxLen]; omega) (by omega) (by first | omega | (simp; done) | (simp; omega)) ?_; intro T1 cap1 w3 hown1 hg1; have hb3:=grown_below hg1 (fun b hb => (Own.lt hempA hb).1) (by first | omega | (simp; done) | (simp; omega));have t0:=(hb3.cell (p:=⟨w5.heap.size,0,none⟩) (by show w5.heap.size < W.heap.size; omega)).trans qa0; have t1:=(hb3.cell (p:=⟨w5.heap.size,1,none⟩) (by show w5.heap.size < W.heap.size; omega)).trans qa1; have t2:=(hb3.cell (p:=⟨w5.heap.size,2,none⟩) (by show w5.heap.size < W.heap.size; omega)).trans qa2; have t3:=(hb3.cell (p:=⟨w5.heap.size,3,none⟩) (by show w5.heap.size < W.heap.size; omega)).trans qa3; have hown1':=OwnE.first hown1 rfl; have z3:=hb3.size; rw [szA] at z3; have z3' : W.heap.size ≤ w3.heap.size:=(by omega);have c3:=hbeA.trans hb3; clear hown1 hg1)
     | (refine step_app (by rfl) (.tmp 17) (.tmp 18) _ (by rfl) W.heap.size 69 _ 4 56 Tryz.underlying30 info_Item rfl (by omega) (some ⟨W.heap.size,0,none⟩) T 0 0 cur.length cap _ (cE 4 encItem ([] : List ElItem)) (cE 4 encItem cur) (by simp [go_sem]) (by simp [go_sem]) hempB hrB (fun _ _ => encItem_one _ _) (by simp only [maxLen]; omega) (by omega) (by first | omega | (simp; done) | (simp; omega)) ?_; intro T1 cap1 w3 hown1 hg1; have hb3:=grown_below hg1 (fun b hb => (Own.lt hempB hb).1) (by first | omega | (simp; done) | (simp; omega));have t0:=(hb3.cell (p:=⟨w5.heap.size,0,none⟩) (by show w5.heap.size < W.heap.size; omega)).trans qb0; have t1:=(hb3.cell (p:=⟨w5.heap.size,1,none⟩) (by show w5.heap.size < W.heap.size; omega)).trans qb1; have t2:=(hb3.cell (p:=⟨w5.heap.size,2,none⟩) (by show w5.heap.size < W.heap.size; omega)).trans qb2; have t3:=(hb3.cell (p:=⟨w5.heap.size,3,none⟩) (by show w5.heap.size < W.heap.size; omega)).trans qb3; have hown1':=OwnE.first hown1 rfl; have z3:=hb3.size; rw [szB] at z3; have z3' : W.heap.size ≤ w3.heap.size:=(by omega);have c3:=hbeB.trans hb3; have hpx:=elem_kept (enc:=encItem) (y:=p) (W.heap.size + 1) hg1 (by first | omega | (simp; done) | (simp; omega)) (.inr (by first | (simp [blk]; done) | (simp [blk]; omega))) hxB; clear hown1 hg1)
     | (refine step_app (by rfl) (.tmp 17) (.tmp 18) _ (by rfl) W.heap.size 69 _ 4 56 Tryz.underlying30 info_Item rfl (by omega) (some ⟨W.heap.size + 1,0,none⟩) T 0 0 cur.length cap _ (cE 4 encItem ([] : List ElItem)) (cE 4 encItem cur) (by simp [go_sem]) (by simp [go_sem]) hempC hrC (fun _ _ => encItem_one _ _) (by simp only [maxLen]; omega) (by omega) (by first | omega | (simp; done) | (simp; omega)) ?_; intro T1 cap1 w3 hown1 hg1; have hb3:=grown_below hg1 (fun b hb => (Own.lt hempC hb).1) (by first | omega | (simp; done) | (simp; omega));have t0:=(hb3.cell (p:=⟨w5.heap.size,0,none⟩) (by show w5.heap.size < W.heap.size; omega)).trans qc0; have t1:=(hb3.cell (p:=⟨w5.heap.size,1,none⟩) (by show w5.heap.size < W.heap.size; omega)).trans qc1; have t2:=(hb3.cell (p:=⟨w5.heap.size,2,none⟩) (by show w5.heap.size < W.heap.size; omega)).trans qc2; have t3:=(hb3.cell (p:=⟨w5.heap.size,3,none⟩) (by show w5.heap.size < W.heap.size; omega)).trans qc3; have hown1':=OwnE.first hown1 rfl; have z3:=hb3.size; rw [szC] at z3; have z3' : W.heap.size ≤ w3.heap.size:=(by omega);have c3:=hbeC.trans hb3; have hpx:=elem_kept (enc:=encItem) (y:=p) W.heap.size hg1 (by first | omega | (simp; done) | (simp; omega)) (.inr (by first | (simp [blk]; done) | (simp [blk]; omega))) hxC; clear hown1 hg1)
     | (refine step_app (by rfl) (.tmp 19) (.tmp 21) _ (by rfl) W.heap.size 69 _ 4 56 Tryz.underlying30 info_Item rfl (by omega) T1 (some ⟨w3.heap.size,0,none⟩) cur.length cap1 1 1 _ (cE 4 encItem cur) (encItem p) (by simp [go_sem]) (by simp [go_sem]) (Own.below hown1' ((Below.refl _ _).alloc (Nat.le_refl _) _)) (rd_elem _ _ _ _ (fun j hj => by rcases (by omega : j = 0 ∨ j = 1 ∨ j = 2 ∨ j = 3) with rfl | rfl | rfl | rfl <;> rfl)) (fun _ _ => encItem_one _ _) (by simp only [maxLen]; omega) (by omega) (by first | omega | (simp; done) | (simp; omega)) ?_; intro T2 cap2 w4 hown2 hg2; have hb4:=((Below.refl W.heap.size w3).alloc (by omega) _).trans (grown_below hg2 (fun b hb => (Own.lt hown1' hb).1) (by first | omega | (simp; done) | (simp; omega)));have hown2':=OwnE.snoc (by omega) hown2; have z4:=hb4.size; have v0:=(hb4.cell (p:=⟨w5.heap.size,0,none⟩) (by show w5.heap.size < W.heap.size; omega)).trans t0; have v1:=(hb4.cell (p:=⟨w5.heap.size,1,none⟩) (by show w5.heap.size < W.heap.size; omega)).trans t1; have v2:=(hb4.cell (p:=⟨w5.heap.size,2,none⟩) (by show w5.heap.size < W.heap.size; omega)).trans t2; have v3:=(hb4.cell (p:=⟨w5.heap.size,3,none⟩) (by show w5.heap.size < W.heap.size; omega)).trans t3; clear hown2 hg2)
     | (refine step_app (by rfl) (.tmp 19) (.tmp 21) _ (by rfl) W.heap.size 69 _ 4 56 Tryz.underlying30 info_Item rfl (by omega) T1 (some ⟨W.heap.size + 1,0,none⟩) cur.length cap1 1 1 _ (cE 4 encItem cur) (encItem p) (by simp [go_sem]) (by simp [go_sem]) hown1' hpx (fun _ _ => encItem_one _ _) (by simp only [maxLen]; omega) (by omega) (by first | omega | (simp; done) | (simp; omega)) ?_; intro T2 cap2 w4 hown2 hg2; have hb4:=grown_below hg2 (fun b hb => (Own.lt hown1' hb).1) (by first | omega | (simp; done) | (simp; omega));have hown2':=OwnE.snoc (by omega) hown2; have z4:=hb4.size; have v0:=(hb4.cell (p:=⟨w5.heap.size,0,none⟩) (by show w5.heap.size < W.heap.size; omega)).trans t0; have v1:=(hb4.cell (p:=⟨w5.heap.size,1,none⟩) (by show w5.heap.size < W.heap.size; omega)).trans t1; have v2:=(hb4.cell (p:=⟨w5.heap.size,2,none⟩) (by show w5.heap.size < W.heap.size; omega)).trans t2; have v3:=(hb4.cell (p:=⟨w5.heap.size,3,none⟩) (by show w5.heap.size < W.heap.size; omega)).trans t3; clear hown2 hg2)
     | (refine step_app (by rfl) (.tmp 19) (.tmp 21) _ (by rfl) W.heap.size 69 _ 4 56 Tryz.underlying30 info_Item rfl (by omega) T1 (some ⟨W.heap.size,0,none⟩) cur.length cap1 1 1 _ (cE 4 encItem cur) (encItem p) (by simp [go_sem]) (by simp [go_sem]) hown1' hpx (fun _ _ => encItem_one _ _) (by simp only [maxLen]; omega) (by omega) (by first | omega | (simp; done) | (simp; omega)) ?_; intro T2 cap2 w4 hown2 hg2; have hb4:=grown_below hg2 (fun b hb => (Own.lt hown1' hb).1) (by first | omega | (simp; done) | (simp; omega));have hown2':=OwnE.snoc (by omega) hown2; have z4:=hb4.size; have v0:=(hb4.cell (p:=⟨w5.heap.size,0,none⟩) (by show w5.heap.size < W.heap.size; omega)).trans t0; have v1:=(hb4.cell (p:=⟨w5.heap.size,1,none⟩) (by show w5.heap.size < W.heap.size; omega)).trans t1; have v2:=(hb4.cell (p:=⟨w5.heap.size,2,none⟩) (by show w5.heap.size < W.heap.size; omega)).trans t2; have v3:=(hb4.cell (p:=⟨w5.heap.size,3,none⟩) (by show w5.heap.size < W.heap.size; omega)).trans t3; clear hown2 hg2)
     | (go_at_call 79; have hcall:=specFeedValid_any T2 cap2 w4.heap.size (cur ++ [p]) w4 (OwnE.rd hown2') (Nat.le_refl _) (by rw [HLQ.out]; omega) HQS.out; rw [HLQ.out,HQ.out] at hcall; have HC:=Lib.hid hcall; clear hcall; refine HC.out.mono ?_; rintro e w6 ⟨rfl,hb6⟩; have z6:=hb6.size; have hb46 : Below W.heap.size w4 w6:=hb6.mono (by omega);have x0:=(hb46.cell (p:=⟨w5.heap.size,0,none⟩) (by show w5.heap.size < W.heap.size; omega)).trans v0; have x1:=(hb46.cell (p:=⟨w5.heap.size,1,none⟩) (by show w5.heap.size < W.heap.size; omega)).trans v1; have x2:=(hb46.cell (p:=⟨w5.heap.size,2,none⟩) (by show w5.heap.size < W.heap.size; omega)).trans v2; have x3:=(hb46.cell (p:=⟨w5.heap.size,3,none⟩) (by show w5.heap.size < W.heap.size; omega)).trans v3))
    all_goals
     have hbF : Below W.heap.size W w6:=(c3.trans hb4).trans hb46;have hwF:=only_below hwX hbF (by have:=hwX.size; omega);have hrF:=hrX.below hbF (by omega);have hownF:=Own.belowB hownX hbF (fun b hb => by have:=hhi.out b hb; omega);have hsF:=hwF.size;clear hempA hempB hempC hrA hrB hrC hbeA hbeB hbeC qa0 qa1 qa2 qa3 qb0 qb1 qb2 qb3 qc0 qc1 qc2 qc3 qp0 qp1 qp2 qp3 t0 t1 t2 t3 v0 v1 v2 v3 s0 s1 s2 s3 hxB hxC hown1' hown2' hownX hwX hrX c3 hb3 hb4 hb46 hb6 hbF
     go_wp2_with fail
     go_roundw
     case rel => exact ⟨c + 1,y,T,cap,cur,by omega,by go_num,rfl,by omega,HSZ,hownF,hrF.more (by omega),hwF⟩
     case measure => simp [intOf]
   ·have HQ:=Lib.hid hq
    clear hq
    go_wp2_with fail
    go_region_held3 (fun w' => w'.cell? ⟨w5.heap.size,0,none⟩ = some (Value.string p.1) ∧ w'.cell? ⟨w5.heap.size,1,none⟩ = some (Value.string p.2.1) ∧ w'.cell? ⟨w5.heap.size,2,none⟩ = some (Value.string p.2.2.1) ∧ w'.cell? ⟨w5.heap.size,3,none⟩ = some (Value.int .i64 p.2.2.2)) (first | exact ⟨s0,s1,s2,s3⟩ | exact ⟨qa0,qa1,qa2,qa3⟩ | exact ⟨qb0,qb1,qb2,qb3⟩ | exact ⟨qc0,qc1,qc2,qc3⟩ | exact ⟨qp0,qp1,qp2,qp3⟩ | exact ⟨t0,t1,t2,t3⟩ | exact ⟨v0,v1,v2,v3⟩ | exact ⟨x0,x1,x2,x3⟩ | go_keep) (first
     | (refine step_app (by rfl) (.tmp 17) (.tmp 18) _ (by rfl) W.heap.size 69 _ 4 56 Tryz.underlying30 info_Item rfl (by omega) (some ⟨W.heap.size,0,none⟩) T 0 0 cur.length cap _ (cE 4 encItem ([] : List ElItem)) (cE 4 encItem cur) (by simp [go_sem]) (by simp [go_sem]) hempA hrA (fun _ _ => encItem_one _ _) (by simp only [maxLen]; omega) (by omega) (by first | omega | (simp; done) | (simp; omega)) ?_; intro T1 cap1 w3 hown1 hg1; have hb3:=grown_below hg1 (fun b hb => (Own.lt hempA hb).1) (by first | omega | (simp; done) | (simp; omega));have t0:=(hb3.cell (p:=⟨w5.heap.size,0,none⟩) (by show w5.heap.size < W.heap.size; omega)).trans qa0; have t1:=(hb3.cell (p:=⟨w5.heap.size,1,none⟩) (by show w5.heap.size < W.heap.size; omega)).trans qa1; have t2:=(hb3.cell (p:=⟨w5.heap.size,2,none⟩) (by show w5.heap.size < W.heap.size; omega)).trans qa2; have t3:=(hb3.cell (p:=⟨w5.heap.size,3,none⟩) (by show w5.heap.size < W.heap.size; omega)).trans qa3; have hown1':=OwnE.first hown1 rfl; have z3:=hb3.size; rw [szA] at z3; have z3' : W.heap.size ≤ w3.heap.size:=(by omega);have c3:=hbeA.trans hb3; clear hown1 hg1)
     | (refine step_app (by rfl) (.tmp 17) (.tmp 18) _ (by rfl) W.heap.size 69 _ 4 56 Tryz.underlying30 info_Item rfl (by omega) (some ⟨W.heap.size,0,none⟩) T 0 0 cur.length cap _ (cE 4 encItem ([] : List ElItem)) (cE 4 encItem cur) (by simp [go_sem]) (by simp [go_sem]) hempB hrB (fun _ _ => encItem_one _ _) (by simp only [maxLen]; omega) (by omega) (by first | omega | (simp; done) | (simp; omega)) ?_; intro T1 cap1 w3 hown1 hg1; have hb3:=grown_below hg1 (fun b hb => (Own.lt hempB hb).1) (by first | omega | (simp; done) | (simp; omega));have t0:=(hb3.cell (p:=⟨w5.heap.size,0,none⟩) (by show w5.heap.size < W.heap.size; omega)).trans qb0; have t1:=(hb3.cell (p:=⟨w5.heap.size,1,none⟩) (by show w5.heap.size < W.heap.size; omega)).trans qb1; have t2:=(hb3.cell (p:=⟨w5.heap.size,2,none⟩) (by show w5.heap.size < W.heap.size; omega)).trans qb2; have t3:=(hb3.cell (p:=⟨w5.heap.size,3,none⟩) (by show w5.heap.size < W.heap.size; omega)).trans qb3; have hown1':=OwnE.first hown1 rfl; have z3:=hb3.size; rw [szB] at z3; have z3' : W.heap.size ≤ w3.heap.size:=(by omega);have c3:=hbeB.trans hb3; have hpx:=elem_kept (enc:=encItem) (y:=p) (W.heap.size + 1) hg1 (by first | omega | (simp; done) | (simp; omega)) (.inr (by first | (simp [blk]; done) | (simp [blk]; omega))) hxB; clear hown1 hg1)
     | (refine step_app (by rfl) (.tmp 17) (.tmp 18) _ (by rfl) W.heap.size 69 _ 4 56 Tryz.underlying30 info_Item rfl (by omega) (some ⟨W.heap.size + 1,0,none⟩) T 0 0 cur.length cap _ (cE 4 encItem ([] : List ElItem)) (cE 4 encItem cur) (by simp [go_sem]) (by simp [go_sem]) hempC hrC (fun _ _ => encItem_one _ _) (by simp only [maxLen]; omega) (by omega) (by first | omega | (simp; done) | (simp; omega)) ?_; intro T1 cap1 w3 hown1 hg1; have hb3:=grown_below hg1 (fun b hb => (Own.lt hempC hb).1) (by first | omega | (simp; done) | (simp; omega));have t0:=(hb3.cell (p:=⟨w5.heap.size,0,none⟩) (by show w5.heap.size < W.heap.size; omega)).trans qc0; have t1:=(hb3.cell (p:=⟨w5.heap.size,1,none⟩) (by show w5.heap.size < W.heap.size; omega)).trans qc1; have t2:=(hb3.cell (p:=⟨w5.heap.size,2,none⟩) (by show w5.heap.size < W.heap.size; omega)).trans qc2; have t3:=(hb3.cell (p:=⟨w5.heap.size,3,none⟩) (by show w5.heap.size < W.heap.size; omega)).trans qc3; have hown1':=OwnE.first hown1 rfl; have z3:=hb3.size; rw [szC] at z3; have z3' : W.heap.size ≤ w3.heap.size:=(by omega);have c3:=hbeC.trans hb3; have hpx:=elem_kept (enc:=encItem) (y:=p) W.heap.size hg1 (by first | omega | (simp; done) | (simp; omega)) (.inr (by first | (simp [blk]; done) | (simp [blk]; omega))) hxC; clear hown1 hg1)
     | (refine step_app (by rfl) (.tmp 19) (.tmp 21) _ (by rfl) W.heap.size 69 _ 4 56 Tryz.underlying30 info_Item rfl (by omega) T1 (some ⟨w3.heap.size,0,none⟩) cur.length cap1 1 1 _ (cE 4 encItem cur) (encItem p) (by simp [go_sem]) (by simp [go_sem]) (Own.below hown1' ((Below.refl _ _).alloc (Nat.le_refl _) _)) (rd_elem _ _ _ _ (fun j hj => by rcases (by omega : j = 0 ∨ j = 1 ∨ j = 2 ∨ j = 3) with rfl | rfl | rfl | rfl <;> rfl)) (fun _ _ => encItem_one _ _) (by simp only [maxLen]; omega) (by omega) (by first | omega | (simp; done) | (simp; omega)) ?_; intro T2 cap2 w4 hown2 hg2; have hb4:=((Below.refl W.heap.size w3).alloc (by omega) _).trans (grown_below hg2 (fun b hb => (Own.lt hown1' hb).1) (by first | omega | (simp; done) | (simp; omega)));have hown2':=OwnE.snoc (by omega) hown2; have z4:=hb4.size; have v0:=(hb4.cell (p:=⟨w5.heap.size,0,none⟩) (by show w5.heap.size < W.heap.size; omega)).trans t0; have v1:=(hb4.cell (p:=⟨w5.heap.size,1,none⟩) (by show w5.heap.size < W.heap.size; omega)).trans t1; have v2:=(hb4.cell (p:=⟨w5.heap.size,2,none⟩) (by show w5.heap.size < W.heap.size; omega)).trans t2; have v3:=(hb4.cell (p:=⟨w5.heap.size,3,none⟩) (by show w5.heap.size < W.heap.size; omega)).trans t3; clear hown2 hg2)
     | (refine step_app (by rfl) (.tmp 19) (.tmp 21) _ (by rfl) W.heap.size 69 _ 4 56 Tryz.underlying30 info_Item rfl (by omega) T1 (some ⟨W.heap.size + 1,0,none⟩) cur.length cap1 1 1 _ (cE 4 encItem cur) (encItem p) (by simp [go_sem]) (by simp [go_sem]) hown1' hpx (fun _ _ => encItem_one _ _) (by simp only [maxLen]; omega) (by omega) (by first | omega | (simp; done) | (simp; omega)) ?_; intro T2 cap2 w4 hown2 hg2; have hb4:=grown_below hg2 (fun b hb => (Own.lt hown1' hb).1) (by first | omega | (simp; done) | (simp; omega));have hown2':=OwnE.snoc (by omega) hown2; have z4:=hb4.size; have v0:=(hb4.cell (p:=⟨w5.heap.size,0,none⟩) (by show w5.heap.size < W.heap.size; omega)).trans t0; have v1:=(hb4.cell (p:=⟨w5.heap.size,1,none⟩) (by show w5.heap.size < W.heap.size; omega)).trans t1; have v2:=(hb4.cell (p:=⟨w5.heap.size,2,none⟩) (by show w5.heap.size < W.heap.size; omega)).trans t2; have v3:=(hb4.cell (p:=⟨w5.heap.size,3,none⟩) (by show w5.heap.size < W.heap.size; omega)).trans t3; clear hown2 hg2)
     | (refine step_app (by rfl) (.tmp 19) (.tmp 21) _ (by rfl) W.heap.size 69 _ 4 56 Tryz.underlying30 info_Item rfl (by omega) T1 (some ⟨W.heap.size,0,none⟩) cur.length cap1 1 1 _ (cE 4 encItem cur) (encItem p) (by simp [go_sem]) (by simp [go_sem]) hown1' hpx (fun _ _ => encItem_one _ _) (by simp only [maxLen]; omega) (by omega) (by first | omega | (simp; done) | (simp; omega)) ?_; intro T2 cap2 w4 hown2 hg2; have hb4:=grown_below hg2 (fun b hb => (Own.lt hown1' hb).1) (by first | omega | (simp; done) | (simp; omega));have hown2':=OwnE.snoc (by omega) hown2; have z4:=hb4.size; have v0:=(hb4.cell (p:=⟨w5.heap.size,0,none⟩) (by show w5.heap.size < W.heap.size; omega)).trans t0; have v1:=(hb4.cell (p:=⟨w5.heap.size,1,none⟩) (by show w5.heap.size < W.heap.size; omega)).trans t1; have v2:=(hb4.cell (p:=⟨w5.heap.size,2,none⟩) (by show w5.heap.size < W.heap.size; omega)).trans t2; have v3:=(hb4.cell (p:=⟨w5.heap.size,3,none⟩) (by show w5.heap.size < W.heap.size; omega)).trans t3; clear hown2 hg2)
     | (go_at_call 79; have hcall:=specFeedValid_any T2 cap2 w4.heap.size (cur ++ [p]) w4 (OwnE.rd hown2') (Nat.le_refl _) (by rw [HLQ.out]; omega) HQS.out; rw [HLQ.out,HQ.out] at hcall; have HC:=Lib.hid hcall; clear hcall; refine HC.out.mono ?_; rintro e w6 ⟨rfl,hb6⟩; have z6:=hb6.size; have hb46 : Below W.heap.size w4 w6:=hb6.mono (by omega);have x0:=(hb46.cell (p:=⟨w5.heap.size,0,none⟩) (by show w5.heap.size < W.heap.size; omega)).trans v0; have x1:=(hb46.cell (p:=⟨w5.heap.size,1,none⟩) (by show w5.heap.size < W.heap.size; omega)).trans v1; have x2:=(hb46.cell (p:=⟨w5.heap.size,2,none⟩) (by show w5.heap.size < W.heap.size; omega)).trans v2; have x3:=(hb46.cell (p:=⟨w5.heap.size,3,none⟩) (by show w5.heap.size < W.heap.size; omega)).trans v3))
    all_goals
     have hbF : Below W.heap.size W w6:=(c3.trans hb4).trans hb46;have hwF:=only_below hwX hbF (by have:=hwX.size; omega);have hrF:=hrX.below hbF (by omega);have hownF:=Own.belowB hownX hbF (fun b hb => by have:=hhi.out b hb; omega);have hsF:=hwF.size;clear hempA hempB hempC hrA hrB hrC hbeA hbeB hbeC qa0 qa1 qa2 qa3 qb0 qb1 qb2 qb3 qc0 qc1 qc2 qc3 qp0 qp1 qp2 qp3 t0 t1 t2 t3 v0 v1 v2 v3 s0 s1 s2 s3 hxB hxC hown1' hown2' hownX hwX hrX c3 hb3 hb4 hb46 hb6 hbF
     go_wp2_with (at_builtin; refine wpList_app rfl (.tmp 24) (.tmp 26) _ rfl w.heap.size 69 _ 4 56 Tryz.underlying30 info_Item rfl (by omega) T (some ⟨w6.heap.size,0,none⟩) cur.length cap 1 1 (w6.heap.size + 1) (cE 4 encItem cur) (encItem p) rfl rfl (Own.below hownF ((Below.refl _ _).alloc (Nat.le_refl _) _)) (rd_elem _ _ _ _ (fun j hj => by rcases (by omega : j = 0 ∨ j = 1 ∨ j = 2 ∨ j = 3) with rfl | rfl | rfl | rfl <;> rfl)) (fun _ _ => encItem_one _ _) (by simp only [maxLen]; omega) (by omega) (by first | omega | (simp; done) | (simp; omega)) ?_; intro T8 cap8 w8 hown8 hg8)
     go_roundw
     case rel => exact ⟨c + 1,y,T8,cap8,cur ++ [p],by omega,by go_num,by rw [List.length_append]; rfl,by rw [HLQ.out]; omega,Lib.hid (add_szI HSZ.out ⟨hp0,hp1,hp2⟩),OwnE.snoc (by omega) hown8,(hrF.below (((Below.refl _ _).alloc hsF _).trans (grown_below hg8 (fun b hb => (Own.lt hownF hb).1) (by first | omega | (simp; done) | (simp; omega)))) hlt).more (by omega),only_below hwF (((Below.refl _ _).alloc hsF _).trans (grown_below hg8 (fun b hb => (Own.lt hownF hb).1) (by first | omega | (simp; done) | (simp; omega)))) (Nat.le_refl _)⟩
     case measure => simp [intOf]
  ·have hd : decide (0 < (y : Int)) = false:=decide_eq_false (by omega)
   go_wp2_with fail
   refine (odd_any g _ _ _ hr (by omega) hn hn2).mono ?_;rintro e w2 ⟨q,rfl,hr2,hg2⟩;have hown2:=keptI hown hg2 hlt;have hw2:=hw.trans hg2;have hs2:=hw2.size;clear hown hr hw hg2 hd;cases q
   ·go_wp2_with fail
    go_ret;exact ⟨T,cap,cur,rfl,by omega,HSZ.out,hown2,hr2.more (by omega),hw2⟩
   ·by_cases h0 : 0 < cur.length
    ·have d0 : decide (0 < (cur.length : Int)) = true:=decide_eq_true (by omega)
     have d0n : decide (0 < cur.length) = true:=decide_eq_true h0
     go_wp2_with fail
     refine (pick_any g _ _ _ hr2 (by omega)).mono ?_;rintro e w3 ⟨z,rfl,hz0,hz1,hr3,hg3⟩;have hown3:=keptI hown2 hg3 hlt;have hw3:=hw2.trans hg3;have hs3:=hw3.size;clear hown2 hw2 hr2 hg3 d0 d0n;by_cases hz : z = 0
     ·have e0 : (z == 0) = true:=beq_iff_eq.2 hz
      clear hz;rcases hown3.shape with ⟨_,hq0,_⟩ | ⟨b,rfl,hbb,hbl,hcp,hmx⟩
      ·omega
      ·unfold maxLen at hmx
       have c0 : w3.cell? ⟨b,0,none⟩ = some (Value.string (gt cur 0).1):=Own.cell hown3 rfl (j:=0) (by omega);have c1 : w3.cell? ⟨b,1,none⟩ = some (Value.string (gt cur 0).2.1):=Own.cell hown3 rfl (j:=1) (by omega);have c2 : w3.cell? ⟨b,2,none⟩ = some (Value.string (gt cur 0).2.2.1):=Own.cell hown3 rfl (j:=2) (by omega);have c3 : w3.cell? ⟨b,3,none⟩ = some (Value.int .i64 (gt cur 0).2.2.2):=Own.cell hown3 rfl (j:=3) (by omega);have h0i : (0 : Int) < (cur.length : Int):=by omega
       go_wp2_with (at_builtin; refine wpList_app rfl (.tmp 39) (.tmp 43) _ rfl w.heap.size 69 _ 4 56 Tryz.underlying30 info_Item rfl (by omega) (some ⟨b,0,none⟩) (some ⟨w3.heap.size,0,none⟩) cur.length cap 1 1 (w3.heap.size + 1) (cE 4 encItem cur) (encItem (gt cur 0)) rfl rfl (Own.below hown3 ((Below.refl _ _).alloc (Nat.le_refl _) _)) (rd_elem _ _ _ _ (fun j hj => by rcases (by omega : j = 0 ∨ j = 1 ∨ j = 2 ∨ j = 3) with rfl | rfl | rfl | rfl <;> rfl)) (fun _ _ => encItem_one _ _) (by simp only [maxLen]; omega) (by omega) (by first | omega | (simp; done) | (simp; omega)) ?_; intro T8 cap8 w8 hown8 hg8)
       go_ret;exact ⟨T8,cap8,cur ++ [(gt cur 0)],by rw [List.length_append]; rfl,by rw [List.length_append,List.length_singleton]; omega,add_szI HSZ.out (HSZ.out _ (gt_mem h0)),OwnE.snoc (by omega) hown8,(hr3.below (((Below.refl _ _).alloc hs3 _).trans (grown_below hg8 (fun b hb => (Own.lt hown3 hb).1) (by first | omega | (simp; done) | (simp; omega)))) hlt).more (by omega),only_below hw3 (((Below.refl _ _).alloc hs3 _).trans (grown_below hg8 (fun b hb => (Own.lt hown3 hb).1) (by first | omega | (simp; done) | (simp; omega)))) (Nat.le_refl _)⟩
     ·have e0 : (z == 0) = false:=beq_eq_false_iff_ne.2 hz
      clear hz
      go_wp2_with fail
      refine (l20Item_any g _ _ _ hr3 (by omega) (by omega) (by omega)).mono ?_;rintro e w5 ⟨p,rfl,hp0,hp1,hp2,hr5,hg5⟩;have hown5:=keptI hown3 hg5 hlt;have hw5:=hw3.trans hg5;have hs5:=hw5.size;clear hg5
      go_wp2_with (at_builtin; refine wpList_app rfl (.tmp 45) (.tmp 48) _ rfl w.heap.size 69 _ 4 56 Tryz.underlying30 info_Item rfl (by omega) T (some ⟨w5.heap.size,0,none⟩) cur.length cap 1 1 (w5.heap.size + 1) (cE 4 encItem cur) (encItem p) rfl rfl (Own.below hown5 ((Below.refl _ _).alloc (Nat.le_refl _) _)) (rd_elem _ _ _ _ (fun j hj => by rcases (by omega : j = 0 ∨ j = 1 ∨ j = 2 ∨ j = 3) with rfl | rfl | rfl | rfl <;> rfl)) (fun _ _ => encItem_one _ _) (by simp only [maxLen]; omega) (by omega) (by first | omega | (simp; done) | (simp; omega)) ?_; intro T8 cap8 w8 hown8 hg8)
      go_ret;exact ⟨T8,cap8,cur ++ [p],by rw [List.length_append]; rfl,by rw [List.length_append,List.length_singleton]; omega,add_szI HSZ.out ⟨hp0,hp1,hp2⟩,OwnE.snoc (by omega) hown8,(hr5.below (((Below.refl _ _).alloc hs5 _).trans (grown_below hg8 (fun b hb => (Own.lt hown5 hb).1) (by first | omega | (simp; done) | (simp; omega)))) hlt).more (by omega),only_below hw5 (((Below.refl _ _).alloc hs5 _).trans (grown_below hg8 (fun b hb => (Own.lt hown5 hb).1) (by first | omega | (simp; done) | (simp; omega)))) (Nat.le_refl _)⟩
    ·have d0 : decide (0 < (cur.length : Int)) = false:=decide_eq_false (by omega)
     have d0n : decide (0 < cur.length) = false:=decide_eq_false h0
     go_wp2_with fail
     refine (l20Item_any g _ _ _ hr2 (by omega) (by omega) (by omega)).mono ?_;rintro e w5 ⟨p,rfl,hp0,hp1,hp2,hr5,hg5⟩;have hown5:=keptI hown2 hg5 hlt;have hw5:=hw2.trans hg5;have hs5:=hw5.size;clear hg5
     go_wp2_with (at_builtin; refine wpList_app rfl (.tmp 45) (.tmp 48) _ rfl w.heap.size 69 _ 4 56 Tryz.underlying30 info_Item rfl (by omega) T (some ⟨w5.heap.size,0,none⟩) cur.length cap 1 1 (w5.heap.size + 1) (cE 4 encItem cur) (encItem p) rfl rfl (Own.below hown5 ((Below.refl _ _).alloc (Nat.le_refl _) _)) (rd_elem _ _ _ _ (fun j hj => by rcases (by omega : j = 0 ∨ j = 1 ∨ j = 2 ∨ j = 3) with rfl | rfl | rfl | rfl <;> rfl)) (fun _ _ => encItem_one _ _) (by simp only [maxLen]; omega) (by omega) (by first | omega | (simp; done) | (simp; omega)) ?_; intro T8 cap8 w8 hown8 hg8)
     go_ret;exact ⟨T8,cap8,cur ++ [p],by rw [List.length_append]; rfl,by rw [List.length_append,List.length_singleton]; omega,add_szI HSZ.out ⟨hp0,hp1,hp2⟩,OwnE.snoc (by omega) hown8,(hr5.below (((Below.refl _ _).alloc hs5 _).trans (grown_below hg8 (fun b hb => (Own.lt hown5 hb).1) (by first | omega | (simp; done) | (simp; omega)))) hlt).more (by omega),only_below hw5 (((Below.refl _ _).alloc hs5 _).trans (grown_below hg8 (fun b hb => (Own.lt hown5 hb).1) (by first | omega | (simp; done) | (simp; omega)))) (Nat.le_refl _)⟩
def DrewHd (g m : Nat) (w : World) (e : Ending) (w' : World) : Prop:=∃ p : ElHandle,e = .returned (.agg #[.string p.1,.string p.2]) ∧ p.1.size ≤ 9 ∧ p.2.size ≤ 9 ∧ Rdr w' g m ∧ w.grownBy w' (some g)
theorem keptH {sz e base g cap : Nat} {enc : ElHandle → Nat → Value} {w w' : World} {A : Option Addr} {xs : List ElHandle} (h : OwnE sz enc e w base A cap xs) (hg : w.grownBy w' (some g)) (hlt : g < base) : OwnE sz enc e w' base A cap xs :=
 Own.kept h hg (by
  cases hA : blk A with
  | none => exact .inl rfl
  | some b => exact .inr (fun e => by injection e with e; have:=(Own.lt h hA).1; omega))
def tabQ (g n : Nat) (q : Value → Prop) : Spec:=fun v w => ∃ b,v = .slice (some ⟨b,0,none⟩) n n ∧ g < b ∧ b < w.heap.size ∧ ∀ i,i < n → ∃ x,w.cell? ⟨b,i,none⟩ = some x ∧ q x
theorem tabQ_stb (g n : Nat) (q : Value → Prop) : Stb g (tabQ g n q):=fun _ _ _ h ⟨b,h1,h2,h3,h4⟩ => ⟨b,h1,h2,Nat.lt_of_lt_of_le h3 h.size,fun i hi => by rw [cell_stb h h2 h3]; exact h4 i hi⟩
theorem tabQ_new {g n : Nat} {q : Value → Prop} {w : World} (h : g < w.heap.size) (cs : Array Value) (e : TypeId) (hq : ∀ i,i < n → ∃ x,cs[i]? = some x ∧ q x) : tabQ g n q (.slice (some ⟨w.heap.size,0,none⟩) n n) (w.alloc (.cells cs e)) :=
 ⟨w.heap.size,rfl,h,by simp,fun i hi => by rw [World.cell?_alloc_at _ _ _ _ rfl]; exact hq i hi⟩
set_option maxHeartbeats 1600000 in
theorem l20Handle_any (g m : Nat) (n : Int) (w : World) (h : Rdr w g m) (hm : m ≤ 900000) (hn : 0 ≤ n) (hn2 : n ≤ 1000000) :
    Calls Tryz.prog 110 #[.pointer (some ⟨g,0,none⟩),.int .i64 n] w (DrewHd g (m + 6) w):=by
 have hlt:=h.lt;have oR : OwnE 2 encHandle 29 (w.alloc (.cells #[.string { data:=#[] },.string { data:=#[] }] 29)) w.heap.size (some ⟨w.heap.size,0,none⟩) 1 [({ data:=#[] },{ data:=#[] })]:=Own.lit w 29 2 1 #[.string { data:=#[] },.string { data:=#[] }] (cE 2 encHandle [({ data:=#[] },{ data:=#[] })]) (by simp only [maxLen]; omega) rfl;have hgA:=only_alloc w (some g) (World.grownBy.refl _ _) (.cells #[.string { data:=#[] },.string { data:=#[] }] 29);have hrA:=h.alloc (.cells #[.string { data:=#[] },.string { data:=#[] }] 29);have hzA : w.heap.size < (w.alloc (.cells #[.string { data:=#[] },.string { data:=#[] }] 29)).heap.size:=by simp
 go_enter Tryz.func110,Tryz.ntmps110
 go_wp2_with fail
 generalize (w.alloc (.cells #[.string { data:=#[] },.string { data:=#[] }] 29)) = wA at *
 refine wp_region_draws g 17 m [(vS (fun v => v = .pointer (some ⟨g,0,none⟩))),(vS (fun v => v = .int .i64 n)),(vS (strP 9)),(tabQ g 4 (strP 9)),(vS (fun v => v = .pointer (some ⟨g,0,none⟩))),(vS (natP 4)),(ptrS g (strP 9)),(vS (strP 9)),(vS (fun v => v = .pointer (some ⟨g,0,none⟩))),(vS (fun v => v = .int .i64 n)),(vS (strP 9)),(tabQ g 3 (strP 9)),(vS (fun v => v = .pointer (some ⟨g,0,none⟩))),(vS (natP 3)),(ptrS g (strP 9)),(vS (strP 9)),(vS (fun v => ∃ (a b : ByteArray),v = .agg #[.string a,.string b] ∧ a.size ≤ 9 ∧ b.size ≤ 9))] [0,0,2,0,0,1,0,0,0,0,2,0,0,1,0,0,0] (by kernel_rfl) (by kernel_rfl) (by rfl) (by rfl) (by rfl) ?_ hrA ?_ ?_
 ·repeat (first | exact stb_nil g | refine stb_cons (by first | exact tabQ_stb _ _ _ | exact ptrS_stb _ _ | exact vS_stb _ _) ?_)
 ·simp only [List.take_succ_cons,List.take_zero]
  refine looseSteps_cons (fun k a' w' hk0 hk1 hR hG hkp hd => ?_) ?_
  ·have hgw:=Rdr.lt hG
   have k0 : a'.tmps.getD 0 undef = .pointer (some ⟨g,0,none⟩):=hkp 0 (by rfl);unfold looseRun;go_simp;exact ⟨World.grownBy.refl _ _,hG,rfl⟩
  refine looseSteps_cons (fun k a' w' hk0 hk1 hR hG hkp hd => ?_) ?_
  ·have hgw:=Rdr.lt hG
   have k1 : a'.tmps.getD 1 undef = .int .i64 n:=hkp 1 (by rfl);unfold looseRun;go_simp;exact ⟨World.grownBy.refl _ _,hG,rfl⟩
  refine looseSteps_cons (fun k a' w' hk0 hk1 hR hG hkp hd => ?_) ?_
  ·have hgw:=Rdr.lt hG
   have e5 : a'.tmps.getD 5 undef = .pointer (some ⟨g,0,none⟩):=hd.1 rfl;have e6 : a'.tmps.getD 6 undef = .int .i64 n:=hd.2.1 rfl;unfold looseRun;go_simp;refine ⟨rfl,(l20Word_any g k _ _ hG (by simp at hk1; omega) hn hn2).mono ?_⟩;rintro e w2 ⟨s,rfl,hs,hr2,hg2⟩;exact ⟨_,rfl,hg2,hr2,s,rfl,hs⟩
  refine looseSteps_cons (fun k a' w' hk0 hk1 hR hG hkp hd => ?_) ?_
  ·have hgw:=Rdr.lt hG
   obtain ⟨t,e7,ht⟩:=hd.1 rfl;have e7' : a'.tmps.getD 7 undef = _:=e7;have e7q:=e7';rw [Array.getD_eq_getD_getElem?] at e7q;clear e7;unfold looseRun;go_simp;refine ⟨grown_alloc _ _ _,hG.alloc _,tabQ_new hgw _ _ ?_⟩;intro i hi
   match i,hi with
   | 0,_ => exact ⟨_,rfl,{ data:=#[97,110,110] },rfl,by decide⟩
   | 1,_ => exact ⟨_,rfl,{ data:=#[98,111,98] },rfl,by decide⟩
   | 2,_ => exact ⟨_,rfl,{ data:=#[101,118,101] },rfl,by decide⟩
   | 3,_ => exact ⟨_,rfl,t,rfl,ht⟩
  refine looseSteps_cons (fun k a' w' hk0 hk1 hR hG hkp hd => ?_) ?_
  ·have hgw:=Rdr.lt hG
   have k0 : a'.tmps.getD 0 undef = .pointer (some ⟨g,0,none⟩):=hkp 0 (by rfl);unfold looseRun;go_simp;exact ⟨World.grownBy.refl _ _,hG,rfl⟩
  refine looseSteps_cons (fun k a' w' hk0 hk1 hR hG hkp hd => ?_) ?_
  ·have hgw:=Rdr.lt hG
   have e9 : a'.tmps.getD 9 undef = .pointer (some ⟨g,0,none⟩):=hd.1 rfl;unfold looseRun;go_simp;refine ⟨rfl,(pick_any g k _ _ hG (by simp at hk1; omega)).mono ?_⟩;rintro e w2 ⟨z,rfl,hz0,hz1,hr2,hg2⟩;exact ⟨_,rfl,hg2,hr2,z.toNat,by rw [Int.toNat_of_nonneg hz0],by omega⟩
  refine looseSteps_cons (fun k a' w' hk0 hk1 hR hG hkp hd => ?_) ?_
  ·have hgw:=Rdr.lt hG
   obtain ⟨b,e8,hb1,hb2,hbc⟩:=hd.1 rfl;obtain ⟨z,e10,hz⟩:=hd.2.1 rfl;have e8' : a'.tmps.getD 8 undef = _:=e8;have e8q:=e8';rw [Array.getD_eq_getD_getElem?] at e8q;clear e8;have e10' : a'.tmps.getD 10 undef = _:=e10;have e10q:=e10';rw [Array.getD_eq_getD_getElem?] at e10q;clear e10;have hz2 : (z : Int) < 4:=by omega
   obtain ⟨x,hx,hqx⟩:=hbc z hz;unfold looseRun;go_simp;exact ⟨World.grownBy.refl _ _,hG,b,z,x,rfl,hb1,hb2,hx,hqx⟩
  refine looseSteps_cons (fun k a' w' hk0 hk1 hR hG hkp hd => ?_) ?_
  ·have hgw:=Rdr.lt hG
   obtain ⟨b,i,x,e1,hb1,hb2,hc,t,rfl,ht⟩:=hd.1 rfl;have e2 : a'.tmps.getD 11 undef = _:=e1;clear e1;unfold looseRun;go_simp;exact ⟨World.grownBy.refl _ _,hG,t,rfl,ht⟩
  refine looseSteps_cons (fun k a' w' hk0 hk1 hR hG hkp hd => ?_) ?_
  ·have hgw:=Rdr.lt hG
   have k0 : a'.tmps.getD 0 undef = .pointer (some ⟨g,0,none⟩):=hkp 0 (by rfl);unfold looseRun;go_simp;exact ⟨World.grownBy.refl _ _,hG,rfl⟩
  refine looseSteps_cons (fun k a' w' hk0 hk1 hR hG hkp hd => ?_) ?_
  ·have hgw:=Rdr.lt hG
   have k1 : a'.tmps.getD 1 undef = .int .i64 n:=hkp 1 (by rfl);unfold looseRun;go_simp;exact ⟨World.grownBy.refl _ _,hG,rfl⟩
  refine looseSteps_cons (fun k a' w' hk0 hk1 hR hG hkp hd => ?_) ?_
  ·have hgw:=Rdr.lt hG
   have e13 : a'.tmps.getD 13 undef = .pointer (some ⟨g,0,none⟩):=hd.1 rfl;have e14 : a'.tmps.getD 14 undef = .int .i64 n:=hd.2.1 rfl;unfold looseRun;go_simp;refine ⟨rfl,(l20Word_any g k _ _ hG (by simp at hk1; omega) hn hn2).mono ?_⟩;rintro e w2 ⟨s,rfl,hs,hr2,hg2⟩;exact ⟨_,rfl,hg2,hr2,s,rfl,hs⟩
  refine looseSteps_cons (fun k a' w' hk0 hk1 hR hG hkp hd => ?_) ?_
  ·have hgw:=Rdr.lt hG
   obtain ⟨t,e15,ht⟩:=hd.1 rfl;have e15' : a'.tmps.getD 15 undef = _:=e15;have e15q:=e15';rw [Array.getD_eq_getD_getElem?] at e15q;clear e15;unfold looseRun;go_simp;refine ⟨grown_alloc _ _ _,hG.alloc _,tabQ_new hgw _ _ ?_⟩;intro i hi
   match i,hi with
   | 0,_ => exact ⟨_,rfl,{ data:=#[114,101,100] },rfl,by decide⟩
   | 1,_ => exact ⟨_,rfl,{ data:=#[115,101,97] },rfl,by decide⟩
   | 2,_ => exact ⟨_,rfl,t,rfl,ht⟩
  refine looseSteps_cons (fun k a' w' hk0 hk1 hR hG hkp hd => ?_) ?_
  ·have hgw:=Rdr.lt hG
   have k0 : a'.tmps.getD 0 undef = .pointer (some ⟨g,0,none⟩):=hkp 0 (by rfl);unfold looseRun;go_simp;exact ⟨World.grownBy.refl _ _,hG,rfl⟩
  refine looseSteps_cons (fun k a' w' hk0 hk1 hR hG hkp hd => ?_) ?_
  ·have hgw:=Rdr.lt hG
   have e17 : a'.tmps.getD 17 undef = .pointer (some ⟨g,0,none⟩):=hd.1 rfl;unfold looseRun;go_simp;refine ⟨rfl,(pick_any g k _ _ hG (by simp at hk1; omega)).mono ?_⟩;rintro e w2 ⟨z,rfl,hz0,hz1,hr2,hg2⟩;exact ⟨_,rfl,hg2,hr2,z.toNat,by rw [Int.toNat_of_nonneg hz0],by omega⟩
  refine looseSteps_cons (fun k a' w' hk0 hk1 hR hG hkp hd => ?_) ?_
  ·have hgw:=Rdr.lt hG
   obtain ⟨b,e16,hb1,hb2,hbc⟩:=hd.1 rfl;obtain ⟨z,e18,hz⟩:=hd.2.1 rfl;have e16' : a'.tmps.getD 16 undef = _:=e16;have e16q:=e16';rw [Array.getD_eq_getD_getElem?] at e16q;clear e16;have e18' : a'.tmps.getD 18 undef = _:=e18;have e18q:=e18';rw [Array.getD_eq_getD_getElem?] at e18q;clear e18;have hz2 : (z : Int) < 3:=by omega
   obtain ⟨x,hx,hqx⟩:=hbc z hz;unfold looseRun;go_simp;exact ⟨World.grownBy.refl _ _,hG,b,z,x,rfl,hb1,hb2,hx,hqx⟩
  refine looseSteps_cons (fun k a' w' hk0 hk1 hR hG hkp hd => ?_) ?_
  ·have hgw:=Rdr.lt hG
   obtain ⟨b,i,x,e1,hb1,hb2,hc,t,rfl,ht⟩:=hd.1 rfl;have e2 : a'.tmps.getD 19 undef = _:=e1;clear e1;unfold looseRun;go_simp;exact ⟨World.grownBy.refl _ _,hG,t,rfl,ht⟩
  refine looseSteps_cons (fun k a' w' hk0 hk1 hR hG hkp hd => ?_) ?_
  ·have hgw:=Rdr.lt hG
   obtain ⟨t,e1,ht⟩:=hd.1 rfl;obtain ⟨u,e2,hu⟩:=hd.2.1 rfl;have e1' : a'.tmps.getD 12 undef = _:=e1;have e1q:=e1';rw [Array.getD_eq_getD_getElem?] at e1q;clear e1;have e2' : a'.tmps.getD 20 undef = _:=e2;have e2q:=e2';rw [Array.getD_eq_getD_getElem?] at e2q;clear e2;unfold looseRun;go_simp
   first | exact ⟨World.grownBy.refl _ _,hG,t,u,rfl,ht,hu⟩ | exact ⟨World.grownBy.refl _ _,hG,t,u,⟨rfl,rfl⟩,ht,hu⟩
  exact looseSteps_nil
 ·intro w3 hg3 hr3
  simp only [List.take_succ_cons,List.take_zero,List.drop_succ_cons,List.drop_zero];refine looseAll_cons fun v5 h5 => ?_
  refine looseAll_cons fun v6 h6 => ?_
  refine looseAll_cons fun v7 h7 => ?_
  refine looseAll_cons fun v8 h8 => ?_
  refine looseAll_cons fun v9 h9 => ?_
  refine looseAll_cons fun v10 h10 => ?_
  refine looseAll_cons fun v11 h11 => ?_
  refine looseAll_cons fun v12 h12 => ?_
  refine looseAll_cons fun v13 h13 => ?_
  refine looseAll_cons fun v14 h14 => ?_
  refine looseAll_cons fun v15 h15 => ?_
  refine looseAll_cons fun v16 h16 => ?_
  refine looseAll_cons fun v17 h17 => ?_
  refine looseAll_cons fun v18 h18 => ?_
  refine looseAll_cons fun v19 h19 => ?_
  refine looseAll_cons fun v20 h20 => ?_
  refine looseAll_cons fun v21 h21 => ?_
  refine looseAll_nil ?_;obtain ⟨a,b,rfl,ha,hb⟩:=h21;simp only [Act.put,List.setIfInBounds_toArray,List.set_cons_zero,List.set_cons_succ];have oR3:=keptH oR hg3 hlt;have hw3:=hgA.trans hg3;have hr3 : Rdr w3 g (m + 6):=hr3;clear h5 h6 h7 h8 h9 h10 h11 h12 h13 h14 h15 h16 h17 h18 h19 h20;have r0 : w3.cell? ⟨w.heap.size,0,none⟩ = some (Value.string { data:=#[] }):=oR3.cell rfl (j:=0) (by simp);have r1 : w3.cell? ⟨w.heap.size,1,none⟩ = some (Value.string { data:=#[] }):=oR3.cell rfl (j:=1) (by simp);have rf0 : w3.frozen? ⟨w.heap.size,0,none⟩ = false:=oR3.frozen rfl 0;have rf1 : w3.frozen? ⟨w.heap.size,1,none⟩ = false:=oR3.frozen rfl 1;have hbF : Below w.heap.size w3 ((w3.setCell ⟨w.heap.size,0,none⟩ (Value.string a)).setCell ⟨w.heap.size,1,none⟩ (Value.string b)):=((Below.refl w.heap.size w3).setCell (Nat.le_refl _) _).setCell (Nat.le_refl _) _;have hgF:=Lib.hid (only_below hw3 hbF (Nat.le_refl _));have hrF:=Lib.hid (hr3.below hbF hlt);clear hbF
  go_wp2_with fail
  exact bodyPost_ret (v:=.agg #[.string a,.string b]) (by simp [results,Tryz.results110,go_sem,r0,r1]) rfl ⟨(a,b),rfl,ha,hb,hrF.out,hgF.out⟩
end Go.Proofs.YtfnmlffpnmmcdaaGreatDoor
