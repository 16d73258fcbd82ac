/- The statement: for every input the law returns true, and each argument reads as before; the tables that the code names are as the program lays them. -/
import Derived.Test.YtfnmlffpnmmcdaaGreatDoorMe1
import Derived.Deep.CutBlock
import Derived.Deep.CutRange
import Derived.Test.YtfnmlffpnmmcdaaGreatDoorMc3
import Derived.Test.YtfnmlffpnmmcdaaGreatDoorMc11
import Derived.Test.YtfnmlffpnmmcdaaGreatDoorMc4
import Derived.Test.YtfnmlffpnmmcdaaGreatDoorCards
import Derived.Test.YtfnmlffpnmmcdaaGreatDoorTie
import Derived.SevenTiedAt
import Derived.OpenVars
import Derived.OpenShut
namespace Go.Proofs.YtfnmlffpnmmcdaaGreatDoor
set_option maxRecDepth 100000
open Go.RowKit
def boxS (N : Nat) : Spec:=fun v w => ∃ b,v = .pointer (some ⟨b,0,none⟩) ∧ N ≤ b ∧ Own w b 33 5 (some ⟨b,0,none⟩) 1 1 zBr'
theorem boxS_stb (N : Nat) : StbB (boxS N):=fun _ _ _ h ⟨b,h1,h2,h3⟩ => ⟨b,h1,h2,Own.below h3 h⟩
set_option maxHeartbeats 6400000 in
theorem specBridgeLines_any (ls : List ByteArray) (A : Option Addr) (ca : Nat) (who : ElHandle) (is : List ElItem) (fs : List ElHandle) (nx : Int) (I : Option Addr) (ci : Nat) (F : Option Addr) (cf B : Nat) (w : World) (hA : RdE 1 encStr w B A ls) (hI : RdE 4 encItem w B I is) (hF : RdE 2 encHandle w B F fs) (hB : B ≤ w.heap.size) (hll : ls.length ≤ 1048576) (hl : is.length ≤ 1048576) (hlf : fs.length ≤ 1048576) (hlz : ∀ k,k < ls.length → (gt ls k).size ≤ maxLen) (hiz : ∀ k,k < is.length → (gt is k).1.size ≤ maxLen ∧ (gt is k).2.1.size ≤ maxLen ∧ (gt is k).2.2.1.size ≤ maxLen) (hfz : ∀ k,k < fs.length → (gt fs k).1.size ≤ maxLen ∧ (gt fs k).2.size ≤ maxLen) (hw0 : who.1.size ≤ maxLen) (hw1 : who.2.size ≤ maxLen) :
    Calls Tryz.prog 22 #[.agg #[Value.string who.1,Value.string who.2,Value.slice I is.length ci,Value.slice F fs.length cf,Value.int .i64 nx],.slice A ls.length ca] w (OutBls w.heap.size (blsR (who,is,fs,nx) ls) w):=by
 have zw : (w.alloc (.cells #[Value.string who.1,Value.string who.2,Value.slice I is.length ci,Value.slice F fs.length cf,Value.int .i64 nx] 33)).heap.size = w.heap.size + 1:=by simp
 have hbA : Below w.heap.size w ((w.alloc (.cells #[Value.string who.1,Value.string who.2,Value.slice I is.length ci,Value.slice F fs.length cf,Value.int .i64 nx] 33)).alloc (.cells #[Value.string { data:=#[] },Value.string { data:=#[] },Value.slice none 0 0,Value.slice none 0 0,Value.int .i64 0] 33)):=((Below.refl _ _).alloc (Nat.le_refl _) _).alloc (by simp) _
 have zA : ((w.alloc (.cells #[Value.string who.1,Value.string who.2,Value.slice I is.length ci,Value.slice F fs.length cf,Value.int .i64 nx] 33)).alloc (.cells #[Value.string { data:=#[] },Value.string { data:=#[] },Value.slice none 0 0,Value.slice none 0 0,Value.int .i64 0] 33)).heap.size = w.heap.size + 2:=by simp
 have oB : Own ((w.alloc (.cells #[Value.string who.1,Value.string who.2,Value.slice I is.length ci,Value.slice F fs.length cf,Value.int .i64 nx] 33)).alloc (.cells #[Value.string { data:=#[] },Value.string { data:=#[] },Value.slice none 0 0,Value.slice none 0 0,Value.int .i64 0] 33)) w.heap.size 33 5 (some ⟨w.heap.size,0,none⟩) 1 1 (bxC who I is.length ci F fs.length cf nx):=Own.below (Own.lit w 33 5 1 #[Value.string who.1,Value.string who.2,Value.slice I is.length ci,Value.slice F fs.length cf,Value.int .i64 nx] (bxC who I is.length ci F fs.length cf nx) (by simp only [maxLen]; omega) rfl) ((Below.refl _ _).alloc (Nat.le_refl _) _)
 have oR : Own ((w.alloc (.cells #[Value.string who.1,Value.string who.2,Value.slice I is.length ci,Value.slice F fs.length cf,Value.int .i64 nx] 33)).alloc (.cells #[Value.string { data:=#[] },Value.string { data:=#[] },Value.slice none 0 0,Value.slice none 0 0,Value.int .i64 0] 33)) (w.heap.size + 1) 33 5 (some ⟨w.heap.size + 1,0,none⟩) 1 1 zBr':=by
  have:=Own.lit (w.alloc (.cells #[Value.string who.1,Value.string who.2,Value.slice I is.length ci,Value.slice F fs.length cf,Value.int .i64 nx] 33)) 33 5 1 #[Value.string { data:=#[] },Value.string { data:=#[] },Value.slice none 0 0,Value.slice none 0 0,Value.int .i64 0] zBr' (by simp only [maxLen]; omega) rfl
  rw [zw] at this
  exact this
 clear zw
 have HIZ:=Lib.hid hiz
 have HFZ:=Lib.hid hfz
 have HLZ:=Lib.hid hlz
 clear hiz hfz hlz
 have hbE : Below ((w.alloc (.cells #[Value.string who.1,Value.string who.2,Value.slice I is.length ci,Value.slice F fs.length cf,Value.int .i64 nx] 33)).alloc (.cells #[Value.string { data:=#[] },Value.string { data:=#[] },Value.slice none 0 0,Value.slice none 0 0,Value.int .i64 0] 33)).heap.size ((w.alloc (.cells #[Value.string who.1,Value.string who.2,Value.slice I is.length ci,Value.slice F fs.length cf,Value.int .i64 nx] 33)).alloc (.cells #[Value.string { data:=#[] },Value.string { data:=#[] },Value.slice none 0 0,Value.slice none 0 0,Value.int .i64 0] 33)) (((w.alloc (.cells #[Value.string who.1,Value.string who.2,Value.slice I is.length ci,Value.slice F fs.length cf,Value.int .i64 nx] 33)).alloc (.cells #[Value.string { data:=#[] },Value.string { data:=#[] },Value.slice none 0 0,Value.slice none 0 0,Value.int .i64 0] 33)).alloc (.cells #[] 9)):=(Below.refl _ _).alloc (Nat.le_refl _) _
 have oE : OwnE 1 encStr 9 (((w.alloc (.cells #[Value.string who.1,Value.string who.2,Value.slice I is.length ci,Value.slice F fs.length cf,Value.int .i64 nx] 33)).alloc (.cells #[Value.string { data:=#[] },Value.string { data:=#[] },Value.slice none 0 0,Value.slice none 0 0,Value.int .i64 0] 33)).alloc (.cells #[] 9)) (w.heap.size + 2) (some ⟨w.heap.size + 2,0,none⟩) 0 ([] : List ByteArray):=by
  have:=Own.lit ((w.alloc (.cells #[Value.string who.1,Value.string who.2,Value.slice I is.length ci,Value.slice F fs.length cf,Value.int .i64 nx] 33)).alloc (.cells #[Value.string { data:=#[] },Value.string { data:=#[] },Value.slice none 0 0,Value.slice none 0 0,Value.int .i64 0] 33)) 9 1 0 #[] (cE 1 encStr ([] : List ByteArray)) (Nat.zero_le _) rfl
  rw [zA] at this
  exact this
 have oBe:=Own.below oB hbE
 have oRe:=Own.below oR hbE
 have hbe:=hbA.trans (hbE.mono hbA.size)
 have a0:=(show _ = some (Value.string who.1) from oBe.cell rfl (j:=0) (by omega))
 have a1:=(show _ = some (Value.string who.2) from oBe.cell rfl (j:=1) (by omega))
 have a2:=(show _ = some (Value.slice I is.length ci) from oBe.cell rfl (j:=2) (by omega))
 have a3:=(show _ = some (Value.slice F fs.length cf) from oBe.cell rfl (j:=3) (by omega))
 have a4:=(show _ = some (Value.int .i64 nx) from oBe.cell rfl (j:=4) (by omega))
 go_enter Tryz.func22,Tryz.ntmps22
 go_wp2_with fail
 generalize (((w.alloc (.cells #[Value.string who.1,Value.string who.2,Value.slice I is.length ci,Value.slice F fs.length cf,Value.int .i64 nx] 33)).alloc (.cells #[Value.string { data:=#[] },Value.string { data:=#[] },Value.slice none 0 0,Value.slice none 0 0,Value.int .i64 0] 33)).alloc (.cells #[] 9)) = wA at *
 refine (specBridgeValid_any who I ci is F cf fs nx wA B (hI.below (hbe.mono hB)) (hF.below (hbe.mono hB)) (Nat.le_trans hB hbe.size) (by omega) (by omega) HIZ.out HFZ.out hw0 hw1).mono ?_
 rintro e w1 ⟨rfl,b1⟩
 have k1:=hbe.trans (b1.mono hbe.size)
 have oB1:=Own.below oBe b1
 have oR1:=Own.below oRe b1
 have g1:=Own.below oE b1
 have z1 : w.heap.size + 2 < w1.heap.size:=(Own.lt g1 (b:=w.heap.size + 2) rfl).2
 clear a0 a1 a2 a3 a4 oB oR oBe oRe oE hbE hbA
 cases hv : brB who is fs nx
 ·have HQ : Hid (blsR (who,is,fs,nx) ls = (zBr0,[])):=Lib.hid (if_neg (by rintro ⟨h,_⟩; have h : brB who is fs nx = true:=h; rw [hv] at h; cases h))
  clear hv
  have hnE : ∀ b,blk (some (⟨w.heap.size + 2,0,none⟩ : Addr)) = some b → b ≠ w.heap.size + 1:=fun b hb => by simp [blk] at hb; omega
  have r0:=(show _ = some (Value.string { data:=#[] }) from oR1.cell rfl (j:=0) (by omega))
  have rf0:=oR1.frozen rfl 0
  have r1:=(show _ = some (Value.string { data:=#[] }) from oR1.cell rfl (j:=1) (by omega))
  have rf1:=oR1.frozen rfl 1
  have r2:=(show _ = some (Value.slice none 0 0) from oR1.cell rfl (j:=2) (by omega))
  have rf2:=oR1.frozen rfl 2
  have r3:=(show _ = some (Value.slice none 0 0) from oR1.cell rfl (j:=3) (by omega))
  have rf3:=oR1.frozen rfl 3
  have r4:=(show _ = some (Value.int .i64 0) from oR1.cell rfl (j:=4) (by omega))
  have rf4:=oR1.frozen rfl 4
  go_wp2_with fail
  refine bodyPost_ret (v:=.tuple #[.agg #[Value.string { data:=#[] },Value.string { data:=#[] },Value.slice none 0 0,Value.slice none 0 0,Value.int .i64 0],.slice (some ⟨w.heap.size + 2,0,none⟩) 0 0]) ?_ rfl ?_
  ·simp [results,Tryz.results22,go_sem,r0,r1,r2,r3,r4]
  ·rw [HQ.out]
   exact ⟨none,0,none,0,(some ⟨w.heap.size + 2,0,none⟩),0,rfl,Own.nil _ _ _ _ _,Own.nil _ _ _ _ _,Own.more (own_setN (own_setN (own_setN (own_setN (own_setN g1 (w.heap.size + 1) 0 (Value.string { data:=#[] }) hnE) (w.heap.size + 1) 1 (Value.string { data:=#[] }) hnE) (w.heap.size + 1) 2 (Value.slice none 0 0) hnE) (w.heap.size + 1) 3 (Value.slice none 0 0) hnE) (w.heap.size + 1) 4 (Value.int .i64 0) hnE) (by omega),(((((k1.setCell (p:=⟨w.heap.size + 1,0,none⟩) (by show w.heap.size ≤ w.heap.size + 1; omega) (Value.string { data:=#[] })).setCell (p:=⟨w.heap.size + 1,1,none⟩) (by show w.heap.size ≤ w.heap.size + 1; omega) (Value.string { data:=#[] })).setCell (p:=⟨w.heap.size + 1,2,none⟩) (by show w.heap.size ≤ w.heap.size + 1; omega) (Value.slice none 0 0)).setCell (p:=⟨w.heap.size + 1,3,none⟩) (by show w.heap.size ≤ w.heap.size + 1; omega) (Value.slice none 0 0)).setCell (p:=⟨w.heap.size + 1,4,none⟩) (by show w.heap.size ≤ w.heap.size + 1; omega) (Value.int .i64 0))⟩
 ·by_cases h30 : ls.length ≤ 30
  ·have g30 : decide ((30 : Int) < (ls.length : Int)) = false:=decide_eq_false (by omega)
   have HBL : Hid (blsR (who,is,fs,nx) ls = blsTo (who,is,fs,nx) ls ls.length):=Lib.hid (if_pos ⟨hv,h30⟩)
   have HB:=Lib.hid (show brvB (who,is,fs,nx) = true from hv)
   clear hv
   have a0:=(show _ = some (Value.string who.1) from oB1.cell rfl (j:=0) (by omega))
   have a1:=(show _ = some (Value.string who.2) from oB1.cell rfl (j:=1) (by omega))
   have a2:=(show _ = some (Value.slice I is.length ci) from oB1.cell rfl (j:=2) (by omega))
   have a3:=(show _ = some (Value.slice F fs.length cf) from oB1.cell rfl (j:=3) (by omega))
   have a4:=(show _ = some (Value.int .i64 nx) from oB1.cell rfl (j:=4) (by omega))
   go_wp2_with fail
   refine (l34Copy_any who I ci is F cf fs nx w1 B (hI.below (k1.mono hB)) (hF.below (k1.mono hB)) (Nat.le_trans hB k1.size) hl hlf).mono ?_
   rintro e w2 ⟨I',ci',F',cf',rfl,o1,o2,b2⟩
   have k2:=k1.trans (b2.mono k1.size)
   clear a0 a1 a2 a3 a4 hI hF
   have b23 : Below w2.heap.size w2 (w2.alloc (.cells #[Value.string who.1,Value.string who.2,Value.slice I' is.length ci',Value.slice F' fs.length cf',Value.int .i64 nx] 33)):=(Below.refl _ _).alloc (Nat.le_refl _) _
   have oX3 : Own (w2.alloc (.cells #[Value.string who.1,Value.string who.2,Value.slice I' is.length ci',Value.slice F' fs.length cf',Value.int .i64 nx] 33)) w2.heap.size 33 5 (some ⟨w2.heap.size,0,none⟩) 1 1 (bxC who I' is.length ci' F' fs.length cf' nx):=Own.lit w2 33 5 1 #[Value.string who.1,Value.string who.2,Value.slice I' is.length ci',Value.slice F' fs.length cf',Value.int .i64 nx] (bxC who I' is.length ci' F' fs.length cf' nx) (by simp only [maxLen]; omega) rfl
   have k3:=k2.trans (b23.mono k2.size)
   have oR3:=Own.below (Own.below oR1 b2) b23
   have g3:=Own.below (Own.below g1 b2) b23
   have pI3:=Own.below o1 b23
   have pF3:=Own.below o2 b23
   have z12:=b2.size
   have z3:=(oX3.lt (b:=w2.heap.size) rfl).2
   go_upto_region 5 with fail
   clear o1 o2 oB1 oR1 g1 b2 b23 k2
   generalize (w2.alloc (.cells #[Value.string who.1,Value.string who.2,Value.slice I' is.length ci',Value.slice F' fs.length cf',Value.int .i64 nx] 33)) = w3 at *
   go_wp2_with fail
   go_loopw [6,8,10] (fun v i _ wr => ∃ (k : Nat) (x : ElBr) (as_ : List ByteArray) (I2 : Option Addr) (c2 : Nat) (F2 : Option Addr) (d2 : Nat) (R : Option Addr) (cR : Nat),k ≤ ls.length ∧ v = .slice R as_.length cR ∧ i = .int .i64 k ∧ Hid ((x,as_) = blsTo (who,is,fs,nx) ls k) ∧ as_.length ≤ k ∧ Hid (brvB x = true) ∧ Own wr w2.heap.size 33 5 (some ⟨w2.heap.size,0,none⟩) 1 1 (bxC x.1 I2 x.2.1.length c2 F2 x.2.2.1.length d2 x.2.2.2) ∧ OwnE 4 encItem 69 wr w1.heap.size I2 c2 x.2.1 ∧ OwnE 2 encHandle 29 wr w1.heap.size F2 d2 x.2.2.1 ∧ OwnE 1 encStr 9 wr (w.heap.size + 2) R cR as_ ∧ Own wr (w.heap.size + 1) 33 5 (some ⟨w.heap.size + 1,0,none⟩) 1 1 zBr' ∧ Below w.heap.size w wr) (fun _ i _ _ => ls.length - (intOf i).toNat)
   case atStart => exact ⟨0,(who,is,fs,nx),[],I',ci',F',cf',_,0,Nat.zero_le _,rfl,rfl,Lib.hid rfl,Nat.le_refl _,HB,oX3,pI3,pF3,g3,oR3,k3⟩
   case round =>
    clear oX3 pI3 pF3 g3 oR3 k3 z3
    obtain ⟨k,x,as_,I2,c2,F2,d2,R,cR,hk,rfl,rfl,hx,hal,hxv,oXr,pIr,pFr,gr,oRr,kr⟩:=hrel
    have zr:=kr.size
    have zx:=(oXr.lt (b:=w2.heap.size) rfl).2
    have HXV:=Lib.hid (brv_of hxv.out)
    have xi8:=fd_len HXV.out.2.1
    have xf10:=(Fv.of HXV.out.2.2.1).1
    by_cases hlt : k < ls.length
    ·obtain ⟨b,off,rfl,hb,hc⟩:=(hA.below (kr.mono hB)).str (by omega)
     have c0:=hc k hlt
     have hzl:=HLZ.out k hlt
     clear hc
     have hx1 : x.1.1.size ≤ maxLen:=by have:=(hv_sizes HXV.out.1).1.2; unfold maxLen; omega
     have hx2 : x.1.2.size ≤ maxLen:=by have:=(hv_sizes HXV.out.1).2.2; unfold maxLen; omega
     have HST:=Lib.hid (blsTo_step hx.out)
     have hrv:=Lib.hid (blOf_valid (line:=gt ls k) hxv.out)
     have hRR : ∃ r,r = blOf x (gt ls k):=⟨_,rfl⟩
     obtain ⟨r,hr⟩:=hRR
     rw [← hr] at HST hrv
     have HR:=Lib.hid hr
     clear hr
     have hzb : b < wr.heap.size:=by omega
     have a0:=(show _ = some (Value.string x.1.1) from oXr.cell rfl (j:=0) (by omega))
     have a1:=(show _ = some (Value.string x.1.2) from oXr.cell rfl (j:=1) (by omega))
     have a2:=(show _ = some (Value.slice I2 x.2.1.length c2) from oXr.cell rfl (j:=2) (by omega))
     have a3:=(show _ = some (Value.slice F2 x.2.2.1.length d2) from oXr.cell rfl (j:=3) (by omega))
     have a4:=(show _ = some (Value.int .i64 x.2.2.2) from oXr.cell rfl (j:=4) (by omega))
     go_wp2_with fail
     refine wp_region_late (R:=fun w w' => Below w.heap.size w w') (G:=fun _ _ => True) 10 0 8 38 (.string r.2) [(isS (.agg #[Value.string x.1.1,Value.string x.1.2,Value.slice I2 x.2.1.length c2,Value.slice F2 x.2.2.1.length d2,Value.int .i64 x.2.2.2])),(isS (.slice (some ⟨b,off,none⟩) ls.length ca)),(isS (.int .i64 (k : Int))),(isS (.pointer (some ⟨b,off + k,none⟩))),(isS (.string (gt ls k))),(tupS wr.heap.size r),(tupS wr.heap.size r),(aggS wr.heap.size r),(isS (.string r.2)),(boxS wr.heap.size)] [0,0,0,0,0,0,0,0,0,0] (by kernel_rfl) (by kernel_rfl) (by rfl) (by rfl) (by rfl) (fun _ => Below.refl _ _) (fun _ _ _ h k => Below.app h k) ?_ trivial rfl rfl rfl rfl (fun _ => rfl) ?_ ?_ ?_
     ·repeat (first | exact stbB_nil | refine stbB_cons (by first | exact isS_stb _ | exact tupS_stb _ _ | exact aggS_stb _ _ | exact boxS_stb _) ?_)
     ·intro a' u1 u2 hd
      obtain ⟨u,e1,hu⟩:=hd.1 rfl
      have e1' : a'.tmps.getD 30 undef = _:=e1
      have e1q:=e1'
      rw [Array.getD_eq_getD_getElem?] at e1q
      go_simp
     ·simp only [List.take_succ_cons,List.take_zero]
      refine looseSteps_cons (fun kk a' w' hk0' hk1' hR hG hkp hd => ?_) ?_
      ·have hR0 : Below wr.drew.heap.size wr.drew w':=hR
       have hRb : Below wr.heap.size wr w':=⟨hR0.os,hR0.tape,hR0.output,hR0.size,hR0.block⟩
       have k7' : a'.tmps.getD 7 undef = .pointer (some ⟨w2.heap.size,0,none⟩):=hkp 7 (by rfl)
       have rr0:=(hRb.cell (p:=⟨w2.heap.size,0,none⟩) (by exact zx)).trans a0
       have rr1:=(hRb.cell (p:=⟨w2.heap.size,1,none⟩) (by exact zx)).trans a1
       have rr2:=(hRb.cell (p:=⟨w2.heap.size,2,none⟩) (by exact zx)).trans a2
       have rr3:=(hRb.cell (p:=⟨w2.heap.size,3,none⟩) (by exact zx)).trans a3
       have rr4:=(hRb.cell (p:=⟨w2.heap.size,4,none⟩) (by exact zx)).trans a4
       unfold looseRun
       go_simp
       exact ⟨Below.refl _ _,trivial,rfl⟩
      refine looseSteps_cons (fun kk a' w' hk0' hk1' hR hG hkp hd => ?_) ?_
      ·have hR0 : Below wr.drew.heap.size wr.drew w':=hR
       have hRb : Below wr.heap.size wr w':=⟨hR0.os,hR0.tape,hR0.output,hR0.size,hR0.block⟩
       have k1' : a'.tmps.getD 1 undef = .slice (some ⟨b,off,none⟩) ls.length ca:=hkp 1 (by rfl)
       unfold looseRun
       go_simp
       exact ⟨Below.refl _ _,trivial,rfl⟩
      refine looseSteps_cons (fun kk a' w' hk0' hk1' hR hG hkp hd => ?_) ?_
      ·have hR0 : Below wr.drew.heap.size wr.drew w':=hR
       have hRb : Below wr.heap.size wr w':=⟨hR0.os,hR0.tape,hR0.output,hR0.size,hR0.block⟩
       have k8' : a'.tmps.getD 8 undef = .int .i64 (k : Int):=hkp 8 (by rfl)
       unfold looseRun
       go_simp
       exact ⟨Below.refl _ _,trivial,rfl⟩
      refine looseSteps_cons (fun kk a' w' hk0' hk1' hR hG hkp hd => ?_) ?_
      ·have hR0 : Below wr.drew.heap.size wr.drew w':=hR
       have hRb : Below wr.heap.size wr w':=⟨hR0.os,hR0.tape,hR0.output,hR0.size,hR0.block⟩
       have e1:=hd.1 rfl
       have e2:=hd.2.1 rfl
       have e1' : a'.tmps.getD 32 undef = _:=e1
       have e1q:=e1'
       rw [Array.getD_eq_getD_getElem?] at e1q
       have e2' : a'.tmps.getD 33 undef = _:=e2
       have e2q:=e2'
       rw [Array.getD_eq_getD_getElem?] at e2q
       have k0i : (0 : Int) ≤ (k : Int):=by omega
       have kli : (k : Int) < (ls.length : Int):=by omega
       have ktn : ((k : Int)).toNat = k:=by omega
       unfold looseRun
       go_simp
       try rw [if_pos hlt]
       try rw [Nat.mul_one]
       exact ⟨Below.refl _ _,trivial,rfl⟩
      refine looseSteps_cons (fun kk a' w' hk0' hk1' hR hG hkp hd => ?_) ?_
      ·have hR0 : Below wr.drew.heap.size wr.drew w':=hR
       have hRb : Below wr.heap.size wr w':=⟨hR0.os,hR0.tape,hR0.output,hR0.size,hR0.block⟩
       have e1:=hd.1 rfl
       have e1' : a'.tmps.getD 34 undef = _:=e1
       have e1q:=e1'
       rw [Array.getD_eq_getD_getElem?] at e1q
       have rr0:=(hRb.cell (p:=⟨b,off + k,none⟩) (by exact hzb)).trans c0
       unfold looseRun
       go_simp
       exact ⟨Below.refl _ _,trivial,rfl⟩
      refine looseSteps_cons (fun kk a' w' hk0' hk1' hR hG hkp hd => ?_) ?_
      ·have hR0 : Below wr.drew.heap.size wr.drew w':=hR
       have hRb : Below wr.heap.size wr w':=⟨hR0.os,hR0.tape,hR0.output,hR0.size,hR0.block⟩
       have e1:=hd.1 rfl
       have e2:=hd.2.1 rfl
       have e1' : a'.tmps.getD 31 undef = _:=e1
       have e1q:=e1'
       rw [Array.getD_eq_getD_getElem?] at e1q
       have e2' : a'.tmps.getD 35 undef = _:=e2
       have e2q:=e2'
       rw [Array.getD_eq_getD_getElem?] at e2q
       unfold looseRun
       go_simp
       refine ⟨rfl,(specBridgeLine_any (gt ls k) x.1 x.2.1 x.2.2.1 x.2.2.2 I2 c2 F2 d2 w'.heap.size w' (OwnE.rd (Own.below pIr hRb)) (OwnE.rd (Own.below pFr hRb)) (Nat.le_refl _) (by omega) (by omega) (OwnE.capLe pIr) (fd_sz HXV.out.2.1) (fv_sz HXV.out.2.2.1) hx1 hx2 hzl (Own.shp pFr)).mono ?_⟩
       rw [show blR (x.1,x.2.1,x.2.2.1,x.2.2.2) (gt ls k) = r from (if_pos hxv.out).trans HR.out.symm]
       rintro e u ⟨I3,c3,F3,d3,rfl,p1,p2,hb2⟩
       exact ⟨_,rfl,hb2,trivial,_,rfl,I3,c3,F3,d3,rfl,Own.more p1 hRb.size,Own.more p2 hRb.size⟩
      refine looseSteps_cons (fun kk a' w' hk0' hk1' hR hG hkp hd => ?_) ?_
      ·have hR0 : Below wr.drew.heap.size wr.drew w':=hR
       have hRb : Below wr.heap.size wr w':=⟨hR0.os,hR0.tape,hR0.output,hR0.size,hR0.block⟩
       obtain ⟨u,e1,hu⟩:=hd.1 rfl
       have e1' : a'.tmps.getD 36 undef = _:=e1
       have e1q:=e1'
       rw [Array.getD_eq_getD_getElem?] at e1q
       unfold looseRun
       go_simp
       exact ⟨Below.refl _ _,trivial,u,rfl,hu⟩
      refine looseSteps_cons (fun kk a' w' hk0' hk1' hR hG hkp hd => ?_) ?_
      ·have hR0 : Below wr.drew.heap.size wr.drew w':=hR
       have hRb : Below wr.heap.size wr w':=⟨hR0.os,hR0.tape,hR0.output,hR0.size,hR0.block⟩
       obtain ⟨u,e1,hu⟩:=hd.1 rfl
       have e1' : a'.tmps.getD 30 undef = _:=e1
       have e1q:=e1'
       rw [Array.getD_eq_getD_getElem?] at e1q
       unfold looseRun
       go_simp
       exact ⟨Below.refl _ _,trivial,hu⟩
      refine looseSteps_cons (fun kk a' w' hk0' hk1' hR hG hkp hd => ?_) ?_
      ·have hR0 : Below wr.drew.heap.size wr.drew w':=hR
       have hRb : Below wr.heap.size wr w':=⟨hR0.os,hR0.tape,hR0.output,hR0.size,hR0.block⟩
       obtain ⟨u,e1,hu⟩:=hd.1 rfl
       have e1' : a'.tmps.getD 30 undef = _:=e1
       have e1q:=e1'
       rw [Array.getD_eq_getD_getElem?] at e1q
       unfold looseRun
       go_simp
       exact ⟨Below.refl _ _,trivial,rfl⟩
      refine looseSteps_cons (fun kk a' w' hk0' hk1' hR hG hkp hd => ?_) ?_
      ·have hR0 : Below wr.drew.heap.size wr.drew w':=hR
       have hRb : Below wr.heap.size wr w':=⟨hR0.os,hR0.tape,hR0.output,hR0.size,hR0.block⟩
       unfold looseRun
       go_simp
       exact ⟨below_new _ _,trivial,w'.heap.size,rfl,hRb.size,Own.lit w' 33 5 1 #[Value.string { data:=#[] },Value.string { data:=#[] },Value.slice none 0 0,Value.slice none 0 0,Value.int .i64 0] zBr' (by simp only [maxLen]; omega) rfl⟩
      exact looseSteps_nil
     ·intro w5 hR5 _
      have b5 : Below wr.heap.size wr w5:=⟨hR5.os,hR5.tape,hR5.output,hR5.size,hR5.block⟩
      simp only [List.take_succ_cons,List.take_zero,List.drop_succ_cons,List.drop_zero]
      refine looseAll_cons fun v1 h1 => ?_
      refine looseAll_cons fun v2 h2 => ?_
      refine looseAll_cons fun v3 h3 => ?_
      refine looseAll_cons fun v4 h4 => ?_
      refine looseAll_cons fun v5 h5 => ?_
      refine looseAll_cons fun v6 h6 => ?_
      refine looseAll_cons fun v7 h7 => ?_
      refine looseAll_cons fun v8 h8 => ?_
      refine looseAll_cons fun v9 h9 => ?_
      refine looseAll_cons fun v10 h10 => ?_
      refine looseAll_nil ?_
      have e9 : v9 = .string r.2:=h9
      subst e9
      obtain ⟨I3,c3,F3,d3,rfl,pI5,pF5⟩:=h8
      obtain ⟨bN,rfl,hbN,oN5⟩:=h10
      clear h1 h2 h3 h4 h5 h6 h7 h9 a0 a1 a2 a3 a4 c0
      have k5:=kr.trans (b5.mono kr.size)
      have oX5:=Own.below oXr b5
      have oR5:=Own.below oRr b5
      have g5:=Own.below gr b5
      have z5:=b5.size
      clear oXr oRr gr pIr pFr
      simp only [Act.put,List.setIfInBounds_toArray,List.set_cons_zero,List.set_cons_succ]
      have hni : ∀ b,blk I3 = some b → b ≠ bN:=fun b hb e => own_ne pI5 oN5 (by decide) b hb (by rw [e]; rfl)
      have hnf : ∀ b,blk F3 = some b → b ≠ bN:=fun b hb e => own_ne pF5 oN5 (by decide) b hb (by rw [e]; rfl)
      have hng : ∀ b,blk R = some b → b ≠ bN:=fun b hb e => own_ne g5 oN5 (by decide) b hb (by rw [e]; rfl)
      have hmi : ∀ b,blk I3 = some b → b ≠ w2.heap.size:=fun b hb e => own_ne pI5 oX5 (by decide) b hb (by rw [e]; rfl)
      have hmf : ∀ b,blk F3 = some b → b ≠ w2.heap.size:=fun b hb e => own_ne pF5 oX5 (by decide) b hb (by rw [e]; rfl)
      have hmg : ∀ b,blk R = some b → b ≠ w2.heap.size:=fun b hb e => own_ne g5 oX5 (by decide) b hb (by rw [e]; rfl)
      have a0:=(show _ = some (Value.string { data:=#[] }) from oN5.cell rfl (j:=0) (by omega))
      have a1:=(show _ = some (Value.string { data:=#[] }) from oN5.cell rfl (j:=1) (by omega))
      have a2:=(show _ = some (Value.slice none 0 0) from oN5.cell rfl (j:=2) (by omega))
      have a3:=(show _ = some (Value.slice none 0 0) from oN5.cell rfl (j:=3) (by omega))
      have a4:=(show _ = some (Value.int .i64 0) from oN5.cell rfl (j:=4) (by omega))
      have fz0:=oN5.frozen rfl 0
      have fz1:=oN5.frozen rfl 1
      have fz2:=oN5.frozen rfl 2
      have fz3:=oN5.frozen rfl 3
      have fz4:=oN5.frozen rfl 4
      have s0:=Own.set oN5 rfl (j:=0) (Value.string r.1.1.1)
      have s1:=Own.set s0.1 rfl (j:=1) (Value.string r.1.1.2)
      have s2:=Own.set s1.1 rfl (j:=2) (Value.slice I3 r.1.2.1.length c3)
      have s3:=Own.set s2.1 rfl (j:=3) (Value.slice F3 r.1.2.2.1.length d3)
      have s4:=Own.set s3.1 rfl (j:=4) (Value.int .i64 r.1.2.2.2)
      have pI6:=(own_setN (own_setN (own_setN (own_setN (own_setN pI5 bN 0 (Value.string r.1.1.1) hni) bN 1 (Value.string r.1.1.2) hni) bN 2 (Value.slice I3 r.1.2.1.length c3) hni) bN 3 (Value.slice F3 r.1.2.2.1.length d3) hni) bN 4 (Value.int .i64 r.1.2.2.2) hni)
      have pF6:=(own_setN (own_setN (own_setN (own_setN (own_setN pF5 bN 0 (Value.string r.1.1.1) hnf) bN 1 (Value.string r.1.1.2) hnf) bN 2 (Value.slice I3 r.1.2.1.length c3) hnf) bN 3 (Value.slice F3 r.1.2.2.1.length d3) hnf) bN 4 (Value.int .i64 r.1.2.2.2) hnf)
      have g6:=(own_setN (own_setN (own_setN (own_setN (own_setN g5 bN 0 (Value.string r.1.1.1) hng) bN 1 (Value.string r.1.1.2) hng) bN 2 (Value.slice I3 r.1.2.1.length c3) hng) bN 3 (Value.slice F3 r.1.2.2.1.length d3) hng) bN 4 (Value.int .i64 r.1.2.2.2) hng)
      have oX6:=(own_setN (own_setN (own_setN (own_setN (own_setN oX5 bN 0 (Value.string r.1.1.1) (fun b hb => by simp [blk] at hb; omega)) bN 1 (Value.string r.1.1.2) (fun b hb => by simp [blk] at hb; omega)) bN 2 (Value.slice I3 r.1.2.1.length c3) (fun b hb => by simp [blk] at hb; omega)) bN 3 (Value.slice F3 r.1.2.2.1.length d3) (fun b hb => by simp [blk] at hb; omega)) bN 4 (Value.int .i64 r.1.2.2.2) (fun b hb => by simp [blk] at hb; omega))
      have oR6:=(own_setN (own_setN (own_setN (own_setN (own_setN oR5 bN 0 (Value.string r.1.1.1) (fun b hb => by simp [blk] at hb; omega)) bN 1 (Value.string r.1.1.2) (fun b hb => by simp [blk] at hb; omega)) bN 2 (Value.slice I3 r.1.2.1.length c3) (fun b hb => by simp [blk] at hb; omega)) bN 3 (Value.slice F3 r.1.2.2.1.length d3) (fun b hb => by simp [blk] at hb; omega)) bN 4 (Value.int .i64 r.1.2.2.2) (fun b hb => by simp [blk] at hb; omega))
      have k6:=(((((k5.setCell (p:=⟨bN,0,none⟩) (by show w.heap.size ≤ bN; omega) (Value.string r.1.1.1)).setCell (p:=⟨bN,1,none⟩) (by show w.heap.size ≤ bN; omega) (Value.string r.1.1.2)).setCell (p:=⟨bN,2,none⟩) (by show w.heap.size ≤ bN; omega) (Value.slice I3 r.1.2.1.length c3)).setCell (p:=⟨bN,3,none⟩) (by show w.heap.size ≤ bN; omega) (Value.slice F3 r.1.2.2.1.length d3)).setCell (p:=⟨bN,4,none⟩) (by show w.heap.size ≤ bN; omega) (Value.int .i64 r.1.2.2.2))
      have oN6 : Own (((((w5.setCell ⟨bN,0,none⟩ (Value.string r.1.1.1)).setCell ⟨bN,1,none⟩ (Value.string r.1.1.2)).setCell ⟨bN,2,none⟩ (Value.slice I3 r.1.2.1.length c3)).setCell ⟨bN,3,none⟩ (Value.slice F3 r.1.2.2.1.length d3)).setCell ⟨bN,4,none⟩ (Value.int .i64 r.1.2.2.2)) bN 33 5 (some ⟨bN,0,none⟩) 1 1 (bxC r.1.1 I3 r.1.2.1.length c3 F3 r.1.2.2.1.length d3 r.1.2.2.2):=Own.congr s4.1 (fun j hj => by rcases (by omega : j = 0 ∨ j = 1 ∨ j = 2 ∨ j = 3 ∨ j = 4) with rfl | rfl | rfl | rfl | rfl <;> rfl)
      have z6W : w5.heap.size ≤ (((((w5.setCell ⟨bN,0,none⟩ (Value.string r.1.1.1)).setCell ⟨bN,1,none⟩ (Value.string r.1.1.2)).setCell ⟨bN,2,none⟩ (Value.slice I3 r.1.2.1.length c3)).setCell ⟨bN,3,none⟩ (Value.slice F3 r.1.2.2.1.length d3)).setCell ⟨bN,4,none⟩ (Value.int .i64 r.1.2.2.2)).heap.size:=by simp
      refine ⟨(((((w5.setCell ⟨bN,0,none⟩ (Value.string r.1.1.1)).setCell ⟨bN,1,none⟩ (Value.string r.1.1.2)).setCell ⟨bN,2,none⟩ (Value.slice I3 r.1.2.1.length c3)).setCell ⟨bN,3,none⟩ (Value.slice F3 r.1.2.2.1.length d3)).setCell ⟨bN,4,none⟩ (Value.int .i64 r.1.2.2.2)),?hs,?_⟩
      case hs =>
       intro t0 v ht0
       cases ht0
       go_simp
      go_upto_region 9 with fail
      clear s0 s1 s2 s3 s4 fz0 fz1 fz2 fz3 fz4 pI5 pF5 g5 oX5 oR5 oN5 k5
      generalize (((((w5.setCell ⟨bN,0,none⟩ (Value.string r.1.1.1)).setCell ⟨bN,1,none⟩ (Value.string r.1.1.2)).setCell ⟨bN,2,none⟩ (Value.slice I3 r.1.2.1.length c3)).setCell ⟨bN,3,none⟩ (Value.slice F3 r.1.2.2.1.length d3)).setCell ⟨bN,4,none⟩ (Value.int .i64 r.1.2.2.2)) = w6 at *
      clear a0 a1 a2 a3 a4
      have a0:=(show _ = some (Value.string r.1.1.1) from oN6.cell rfl (j:=0) (by omega))
      have a1:=(show _ = some (Value.string r.1.1.2) from oN6.cell rfl (j:=1) (by omega))
      have a2:=(show _ = some (Value.slice I3 r.1.2.1.length c3) from oN6.cell rfl (j:=2) (by omega))
      have a3:=(show _ = some (Value.slice F3 r.1.2.2.1.length d3) from oN6.cell rfl (j:=3) (by omega))
      have a4:=(show _ = some (Value.int .i64 r.1.2.2.2) from oN6.cell rfl (j:=4) (by omega))
      have y0:=(show _ = some (Value.string x.1.1) from oX6.cell rfl (j:=0) (by omega))
      have y1:=(show _ = some (Value.string x.1.2) from oX6.cell rfl (j:=1) (by omega))
      have y2:=(show _ = some (Value.slice I2 x.2.1.length c2) from oX6.cell rfl (j:=2) (by omega))
      have y3:=(show _ = some (Value.slice F2 x.2.2.1.length d2) from oX6.cell rfl (j:=3) (by omega))
      have y4:=(show _ = some (Value.int .i64 x.2.2.2) from oX6.cell rfl (j:=4) (by omega))
      have fz0:=oX6.frozen rfl 0
      have fz1:=oX6.frozen rfl 1
      have fz2:=oX6.frozen rfl 2
      have fz3:=oX6.frozen rfl 3
      have fz4:=oX6.frozen rfl 4
      have s0:=Own.set oX6 rfl (j:=0) (Value.string r.1.1.1)
      have s1:=Own.set s0.1 rfl (j:=1) (Value.string r.1.1.2)
      have s2:=Own.set s1.1 rfl (j:=2) (Value.slice I3 r.1.2.1.length c3)
      have s3:=Own.set s2.1 rfl (j:=3) (Value.slice F3 r.1.2.2.1.length d3)
      have s4:=Own.set s3.1 rfl (j:=4) (Value.int .i64 r.1.2.2.2)
      have pI7:=(own_setN (own_setN (own_setN (own_setN (own_setN pI6 w2.heap.size 0 (Value.string r.1.1.1) hmi) w2.heap.size 1 (Value.string r.1.1.2) hmi) w2.heap.size 2 (Value.slice I3 r.1.2.1.length c3) hmi) w2.heap.size 3 (Value.slice F3 r.1.2.2.1.length d3) hmi) w2.heap.size 4 (Value.int .i64 r.1.2.2.2) hmi)
      have pF7:=(own_setN (own_setN (own_setN (own_setN (own_setN pF6 w2.heap.size 0 (Value.string r.1.1.1) hmf) w2.heap.size 1 (Value.string r.1.1.2) hmf) w2.heap.size 2 (Value.slice I3 r.1.2.1.length c3) hmf) w2.heap.size 3 (Value.slice F3 r.1.2.2.1.length d3) hmf) w2.heap.size 4 (Value.int .i64 r.1.2.2.2) hmf)
      have g7:=(own_setN (own_setN (own_setN (own_setN (own_setN g6 w2.heap.size 0 (Value.string r.1.1.1) hmg) w2.heap.size 1 (Value.string r.1.1.2) hmg) w2.heap.size 2 (Value.slice I3 r.1.2.1.length c3) hmg) w2.heap.size 3 (Value.slice F3 r.1.2.2.1.length d3) hmg) w2.heap.size 4 (Value.int .i64 r.1.2.2.2) hmg)
      have oR7:=(own_setN (own_setN (own_setN (own_setN (own_setN oR6 w2.heap.size 0 (Value.string r.1.1.1) (fun b hb => by simp [blk] at hb; omega)) w2.heap.size 1 (Value.string r.1.1.2) (fun b hb => by simp [blk] at hb; omega)) w2.heap.size 2 (Value.slice I3 r.1.2.1.length c3) (fun b hb => by simp [blk] at hb; omega)) w2.heap.size 3 (Value.slice F3 r.1.2.2.1.length d3) (fun b hb => by simp [blk] at hb; omega)) w2.heap.size 4 (Value.int .i64 r.1.2.2.2) (fun b hb => by simp [blk] at hb; omega))
      have k7:=(((((k6.setCell (p:=⟨w2.heap.size,0,none⟩) (by show w.heap.size ≤ w2.heap.size; omega) (Value.string r.1.1.1)).setCell (p:=⟨w2.heap.size,1,none⟩) (by show w.heap.size ≤ w2.heap.size; omega) (Value.string r.1.1.2)).setCell (p:=⟨w2.heap.size,2,none⟩) (by show w.heap.size ≤ w2.heap.size; omega) (Value.slice I3 r.1.2.1.length c3)).setCell (p:=⟨w2.heap.size,3,none⟩) (by show w.heap.size ≤ w2.heap.size; omega) (Value.slice F3 r.1.2.2.1.length d3)).setCell (p:=⟨w2.heap.size,4,none⟩) (by show w.heap.size ≤ w2.heap.size; omega) (Value.int .i64 r.1.2.2.2))
      have oX7 : Own (((((w6.setCell ⟨w2.heap.size,0,none⟩ (Value.string r.1.1.1)).setCell ⟨w2.heap.size,1,none⟩ (Value.string r.1.1.2)).setCell ⟨w2.heap.size,2,none⟩ (Value.slice I3 r.1.2.1.length c3)).setCell ⟨w2.heap.size,3,none⟩ (Value.slice F3 r.1.2.2.1.length d3)).setCell ⟨w2.heap.size,4,none⟩ (Value.int .i64 r.1.2.2.2)) w2.heap.size 33 5 (some ⟨w2.heap.size,0,none⟩) 1 1 (bxC r.1.1 I3 r.1.2.1.length c3 F3 r.1.2.2.1.length d3 r.1.2.2.2):=Own.congr s4.1 (fun j hj => by rcases (by omega : j = 0 ∨ j = 1 ∨ j = 2 ∨ j = 3 ∨ j = 4) with rfl | rfl | rfl | rfl | rfl <;> rfl)
      have z7W : w6.heap.size ≤ (((((w6.setCell ⟨w2.heap.size,0,none⟩ (Value.string r.1.1.1)).setCell ⟨w2.heap.size,1,none⟩ (Value.string r.1.1.2)).setCell ⟨w2.heap.size,2,none⟩ (Value.slice I3 r.1.2.1.length c3)).setCell ⟨w2.heap.size,3,none⟩ (Value.slice F3 r.1.2.2.1.length d3)).setCell ⟨w2.heap.size,4,none⟩ (Value.int .i64 r.1.2.2.2)).heap.size:=by simp
      go_upto_region 10 with fail
      clear s0 s1 s2 s3 s4 fz0 fz1 fz2 fz3 fz4 pI6 pF6 g6 oR6 oX6 k6
      generalize (((((w6.setCell ⟨w2.heap.size,0,none⟩ (Value.string r.1.1.1)).setCell ⟨w2.heap.size,1,none⟩ (Value.string r.1.1.2)).setCell ⟨w2.heap.size,2,none⟩ (Value.slice I3 r.1.2.1.length c3)).setCell ⟨w2.heap.size,3,none⟩ (Value.slice F3 r.1.2.2.1.length d3)).setCell ⟨w2.heap.size,4,none⟩ (Value.int .i64 r.1.2.2.2)) = w7 at *
      clear a0 a1 a2 a3 a4 y0 y1 y2 y3 y4 oN6 hni hnf hng hmi hmf hmg
      have z71 : w1.heap.size ≤ w7.heap.size:=by omega
      go_wp2_with (at_builtin; refine wpList_app rfl (.tmp 40) (.tmp 42) _ rfl (w.heap.size + 2) 9 _ 1 16 Tryz.underlying51 info_String rfl (by omega) R (some ⟨w7.heap.size,0,none⟩) as_.length cR 1 1 (w7.heap.size + 1) (cE 1 encStr as_) (encStr r.2) rfl rfl (Own.below g7 ((Below.refl _ _).alloc (Nat.le_refl _) _)) (rd_elem _ _ _ _ (fun j hj => by rcases (by omega : j = 0) with rfl; rfl)) (fun _ _ => encStr_one _ _) (by simp only [maxLen]; omega) (by omega) (by first | omega | (simp; omega)) ?_; intro R8 cR8 w8 o8 g8)
      go_roundw
      case rel =>
       have bA : ∀ o,Below w7.heap.size w7 (w7.alloc o):=fun o => (Below.refl _ _).alloc (Nat.le_refl _) o
       have b78:=((Below.refl (w.heap.size + 2) w7).alloc (by omega) _).trans (grown_below g8 (fun b hb => (Own.lt g7 hb).1) (by first | omega | (simp; omega)))
       refine ⟨k + 1,r.1,as_ ++ [r.2],I3,c3,F3,d3,R8,cR8,by omega,by rw [List.length_append]; rfl,by go_num,HST,by rw [List.length_append]; simp; omega,hrv,Own.kept (Own.below oX7 (bA _)) g8 (kept_of (own_ne oX7 g7 (by decide))),Own.more (Own.kept (Own.below pI7 (bA _)) g8 (kept_of (own_ne pI7 g7 (by decide)))) (by omega),Own.more (Own.kept (Own.below pF7 (bA _)) g8 (kept_of (own_ne pF7 g7 (by decide)))) (by omega),OwnE.snoc (by omega) o8,Own.kept (Own.below oR7 (bA _)) g8 (kept_of (own_ne oR7 g7 (by decide))),k7.trans (b78.mono (by omega))⟩
      case measure => simp [intOf]; omega
    ·obtain rfl : k = ls.length:=by omega
     have HQ : Hid (blsR (who,is,fs,nx) ls = (x,as_)):=Lib.hid (HBL.out.trans hx.out.symm)
     have hN1 : ∀ b,blk I2 = some b → b ≠ w.heap.size + 1:=fun b hb => by have:=(Own.lt pIr hb).1; omega
     have hN2 : ∀ b,blk F2 = some b → b ≠ w.heap.size + 1:=fun b hb => by have:=(Own.lt pFr hb).1; omega
     have hN3 : ∀ b,blk R = some b → b ≠ w.heap.size + 1:=fun b hb => by have:=(Own.lt gr hb).1; omega
     have a0:=(show _ = some (Value.string x.1.1) from oXr.cell rfl (j:=0) (by omega))
     have a1:=(show _ = some (Value.string x.1.2) from oXr.cell rfl (j:=1) (by omega))
     have a2:=(show _ = some (Value.slice I2 x.2.1.length c2) from oXr.cell rfl (j:=2) (by omega))
     have a3:=(show _ = some (Value.slice F2 x.2.2.1.length d2) from oXr.cell rfl (j:=3) (by omega))
     have a4:=(show _ = some (Value.int .i64 x.2.2.2) from oXr.cell rfl (j:=4) (by omega))
     have r0:=(show _ = some (Value.string { data:=#[] }) from oRr.cell rfl (j:=0) (by omega))
     have rf0:=oRr.frozen rfl 0
     have r1:=(show _ = some (Value.string { data:=#[] }) from oRr.cell rfl (j:=1) (by omega))
     have rf1:=oRr.frozen rfl 1
     have r2:=(show _ = some (Value.slice none 0 0) from oRr.cell rfl (j:=2) (by omega))
     have rf2:=oRr.frozen rfl 2
     have r3:=(show _ = some (Value.slice none 0 0) from oRr.cell rfl (j:=3) (by omega))
     have rf3:=oRr.frozen rfl 3
     have r4:=(show _ = some (Value.int .i64 0) from oRr.cell rfl (j:=4) (by omega))
     have rf4:=oRr.frozen rfl 4
     go_wp2_with fail
     refine bodyPost_ret (v:=.tuple #[.agg #[Value.string x.1.1,Value.string x.1.2,Value.slice I2 x.2.1.length c2,Value.slice F2 x.2.2.1.length d2,Value.int .i64 x.2.2.2],.slice R as_.length cR]) ?_ rfl ?_
     ·simp [results,Tryz.results22,go_sem,r0,r1,r2,r3,r4]
     ·rw [HQ.out]
      exact ⟨I2,c2,F2,d2,R,cR,rfl,Own.more (own_setN (own_setN (own_setN (own_setN (own_setN pIr (w.heap.size + 1) 0 (Value.string x.1.1) hN1) (w.heap.size + 1) 1 (Value.string x.1.2) hN1) (w.heap.size + 1) 2 (Value.slice I2 x.2.1.length c2) hN1) (w.heap.size + 1) 3 (Value.slice F2 x.2.2.1.length d2) hN1) (w.heap.size + 1) 4 (Value.int .i64 x.2.2.2) hN1) (by omega),Own.more (own_setN (own_setN (own_setN (own_setN (own_setN pFr (w.heap.size + 1) 0 (Value.string x.1.1) hN2) (w.heap.size + 1) 1 (Value.string x.1.2) hN2) (w.heap.size + 1) 2 (Value.slice I2 x.2.1.length c2) hN2) (w.heap.size + 1) 3 (Value.slice F2 x.2.2.1.length d2) hN2) (w.heap.size + 1) 4 (Value.int .i64 x.2.2.2) hN2) (by omega),Own.more (own_setN (own_setN (own_setN (own_setN (own_setN gr (w.heap.size + 1) 0 (Value.string x.1.1) hN3) (w.heap.size + 1) 1 (Value.string x.1.2) hN3) (w.heap.size + 1) 2 (Value.slice I2 x.2.1.length c2) hN3) (w.heap.size + 1) 3 (Value.slice F2 x.2.2.1.length d2) hN3) (w.heap.size + 1) 4 (Value.int .i64 x.2.2.2) hN3) (by omega),(((((kr.setCell (p:=⟨w.heap.size + 1,0,none⟩) (by show w.heap.size ≤ w.heap.size + 1; omega) (Value.string x.1.1)).setCell (p:=⟨w.heap.size + 1,1,none⟩) (by show w.heap.size ≤ w.heap.size + 1; omega) (Value.string x.1.2)).setCell (p:=⟨w.heap.size + 1,2,none⟩) (by show w.heap.size ≤ w.heap.size + 1; omega) (Value.slice I2 x.2.1.length c2)).setCell (p:=⟨w.heap.size + 1,3,none⟩) (by show w.heap.size ≤ w.heap.size + 1; omega) (Value.slice F2 x.2.2.1.length d2)).setCell (p:=⟨w.heap.size + 1,4,none⟩) (by show w.heap.size ≤ w.heap.size + 1; omega) (Value.int .i64 x.2.2.2))⟩
  ·have g30 : decide ((30 : Int) < (ls.length : Int)) = true:=decide_eq_true (by omega)
   have HQ : Hid (blsR (who,is,fs,nx) ls = (zBr0,[])):=Lib.hid (if_neg (fun h => h30 h.2))
   clear hv
   have hnE : ∀ b,blk (some (⟨w.heap.size + 2,0,none⟩ : Addr)) = some b → b ≠ w.heap.size + 1:=fun b hb => by simp [blk] at hb; omega
   have r0:=(show _ = some (Value.string { data:=#[] }) from oR1.cell rfl (j:=0) (by omega))
   have rf0:=oR1.frozen rfl 0
   have r1:=(show _ = some (Value.string { data:=#[] }) from oR1.cell rfl (j:=1) (by omega))
   have rf1:=oR1.frozen rfl 1
   have r2:=(show _ = some (Value.slice none 0 0) from oR1.cell rfl (j:=2) (by omega))
   have rf2:=oR1.frozen rfl 2
   have r3:=(show _ = some (Value.slice none 0 0) from oR1.cell rfl (j:=3) (by omega))
   have rf3:=oR1.frozen rfl 3
   have r4:=(show _ = some (Value.int .i64 0) from oR1.cell rfl (j:=4) (by omega))
   have rf4:=oR1.frozen rfl 4
   go_wp2_with fail
   refine bodyPost_ret (v:=.tuple #[.agg #[Value.string { data:=#[] },Value.string { data:=#[] },Value.slice none 0 0,Value.slice none 0 0,Value.int .i64 0],.slice (some ⟨w.heap.size + 2,0,none⟩) 0 0]) ?_ rfl ?_
   ·simp [results,Tryz.results22,go_sem,r0,r1,r2,r3,r4]
   ·rw [HQ.out]
    exact ⟨none,0,none,0,(some ⟨w.heap.size + 2,0,none⟩),0,rfl,Own.nil _ _ _ _ _,Own.nil _ _ _ _ _,Own.more (own_setN (own_setN (own_setN (own_setN (own_setN g1 (w.heap.size + 1) 0 (Value.string { data:=#[] }) hnE) (w.heap.size + 1) 1 (Value.string { data:=#[] }) hnE) (w.heap.size + 1) 2 (Value.slice none 0 0) hnE) (w.heap.size + 1) 3 (Value.slice none 0 0) hnE) (w.heap.size + 1) 4 (Value.int .i64 0) hnE) (by omega),(((((k1.setCell (p:=⟨w.heap.size + 1,0,none⟩) (by show w.heap.size ≤ w.heap.size + 1; omega) (Value.string { data:=#[] })).setCell (p:=⟨w.heap.size + 1,1,none⟩) (by show w.heap.size ≤ w.heap.size + 1; omega) (Value.string { data:=#[] })).setCell (p:=⟨w.heap.size + 1,2,none⟩) (by show w.heap.size ≤ w.heap.size + 1; omega) (Value.slice none 0 0)).setCell (p:=⟨w.heap.size + 1,3,none⟩) (by show w.heap.size ≤ w.heap.size + 1; omega) (Value.slice none 0 0)).setCell (p:=⟨w.heap.size + 1,4,none⟩) (by show w.heap.size ≤ w.heap.size + 1; omega) (Value.int .i64 0))⟩
end Go.Proofs.YtfnmlffpnmmcdaaGreatDoor
namespace Go.Proofs.YtfnmlffpnmmcdaaGreatDoor
set_option maxRecDepth 100000
open Go.ChangeShapes Go.WideShapes Go.ChangeAt Go.RowKit
def okwItem (x : ElItem) : Prop:=x.1.size ≤ maxLen ∧ x.2.1.size ≤ maxLen ∧ x.2.2.1.size ≤ maxLen ∧ (Lit.int .i64 x.2.2.2).wf = true
theorem cells_Item : Tryz.prog.cellsOf 102 = 4:=by kernel_rfl
theorem okwszItem {x : ElItem} (h : okwItem x) : x.1.size ≤ maxLen ∧ x.2.1.size ≤ maxLen ∧ x.2.2.1.size ≤ maxLen:=⟨h.1,h.2.1,h.2.2.1⟩
theorem cells_Item_string : Tryz.prog.cellsOf 9 = 1:=by kernel_rfl
theorem cells_Item_int : Tryz.prog.cellsOf 3 = 1:=by kernel_rfl
section
variable {H : Type} {enc : TypeId × Value → H} {W : World}
theorem el_Item (m : Nat) (cs : List Value) (y : DataW H × List MemPlace) (h : DataW.trod enc Tryz.prog W 0 (fun _ => true) true m 102 cs = some y) : ∃ x : ElItem,okwItem x ∧ ∀ j,j < 4 → cs[j]? = some (encItem x j):=by
 obtain ⟨xs,k,_,_,hlen,hxl,hf⟩:=DataW.trod_struct Tryz.underlying102 h
 have hlen' : cs.length = 4:=hlen.trans cells_Item
 match cs,hlen',xs,hxl with
 | [c0,c1,c2,c3],_,[y0,y1,y2,y3],_ =>
  have f0 : DataW.trod enc Tryz.prog W 0 (fun _ => true) true k 9 [c0] = some y0:=by simpa [cells_Item_string] using hf 0 _ rfl
  obtain ⟨a,e0,_,w0⟩:=DataW.trod_string Tryz.underlying9 f0
  simp only [List.cons.injEq,and_true] at e0
  subst e0
  have f1 : DataW.trod enc Tryz.prog W 0 (fun _ => true) true k 9 [c1] = some y1:=by simpa [cells_Item_string] using hf 1 _ rfl
  obtain ⟨b,e1,_,w1⟩:=DataW.trod_string Tryz.underlying9 f1
  simp only [List.cons.injEq,and_true] at e1
  subst e1
  have f2 : DataW.trod enc Tryz.prog W 0 (fun _ => true) true k 9 [c2] = some y2:=by simpa [cells_Item_string] using hf 2 _ rfl
  obtain ⟨c,e2,_,w2⟩:=DataW.trod_string Tryz.underlying9 f2
  simp only [List.cons.injEq,and_true] at e2
  subst e2
  have f3 : DataW.trod enc Tryz.prog W 0 (fun _ => true) true k 3 [c3] = some y3:=by simpa [cells_Item_int] using hf 3 _ rfl
  obtain ⟨d,e3,_,w3⟩:=DataW.trod_int Tryz.underlying3 f3
  simp only [List.cons.injEq,and_true] at e3
  subst e3
  exact ⟨(a,b,c,d),⟨w0,w1,w2,w3⟩,fun j hj => by
   rcases (by omega : j = 0 ∨ j = 1 ∨ j = 2 ∨ j = 3) with rfl | rfl | rfl | rfl <;> rfl⟩
end
end Go.Proofs.YtfnmlffpnmmcdaaGreatDoor
namespace Go.Proofs.YtfnmlffpnmmcdaaGreatDoor
set_option maxRecDepth 100000
open Go.ChangeShapes Go.WideShapes Go.ChangeAt Go.RowKit
def okwHandle (x : ElHandle) : Prop:=x.1.size ≤ maxLen ∧ x.2.size ≤ maxLen
theorem cells_Handle : Tryz.prog.cellsOf 23 = 2:=by kernel_rfl
theorem okwszHandle {x : ElHandle} (h : okwHandle x) : x.1.size ≤ maxLen ∧ x.2.size ≤ maxLen:=⟨h.1,h.2⟩
theorem okwVHandle_0 {x : ElHandle} (h : okwHandle x) : x.1.size ≤ maxLen:=h.1
theorem okwVHandle_1 {x : ElHandle} (h : okwHandle x) : x.2.size ≤ maxLen:=h.2
theorem cells_Handle_string : Tryz.prog.cellsOf 9 = 1:=by kernel_rfl
section
variable {H : Type} {enc : TypeId × Value → H} {W : World}
theorem el_Handle (m : Nat) (cs : List Value) (y : DataW H × List MemPlace) (h : DataW.trod enc Tryz.prog W 0 (fun _ => true) true m 23 cs = some y) : ∃ x : ElHandle,okwHandle x ∧ ∀ j,j < 2 → cs[j]? = some (encHandle x j):=by
 obtain ⟨xs,k,_,_,hlen,hxl,hf⟩:=DataW.trod_struct Tryz.underlying23 h
 have hlen' : cs.length = 2:=hlen.trans cells_Handle
 match cs,hlen',xs,hxl with
 | [c0,c1],_,[y0,y1],_ =>
  have f0 : DataW.trod enc Tryz.prog W 0 (fun _ => true) true k 9 [c0] = some y0:=by simpa [cells_Handle_string] using hf 0 _ rfl
  obtain ⟨a,e0,_,w0⟩:=DataW.trod_string Tryz.underlying9 f0
  simp only [List.cons.injEq,and_true] at e0
  subst e0
  have f1 : DataW.trod enc Tryz.prog W 0 (fun _ => true) true k 9 [c1] = some y1:=by simpa [cells_Handle_string] using hf 1 _ rfl
  obtain ⟨b,e1,_,w1⟩:=DataW.trod_string Tryz.underlying9 f1
  simp only [List.cons.injEq,and_true] at e1
  subst e1
  exact ⟨(a,b),⟨w0,w1⟩,fun j hj => by
   rcases (by omega : j = 0 ∨ j = 1) with rfl | rfl <;> rfl⟩
end
end Go.Proofs.YtfnmlffpnmmcdaaGreatDoor
namespace Go.Proofs.YtfnmlffpnmmcdaaGreatDoor
set_option maxRecDepth 100000
open Go.ChangeShapes Go.WideShapes Go.ChangeAt Go.RowKit
section
variable {H : Type} {enc : TypeId × Value → H} {W : World}
theorem open_raw {P : Program} {α : Type} [Inhabited α] {sz : Nat} {en : α → Nat → Value} {ok : α → Prop} {t e : TypeId} {fuel : Nat} {cs : List Value} {y : DataW H × List MemPlace} (ht : P.underlying t = some (.slice e)) (hC : P.cellsOf e = sz) (hsz : 0 < sz)
    (hel : ∀ (n : Nat) (cs : List Value) (y : DataW H × List MemPlace),DataW.trod enc P W 0 (fun _ => true) true n e cs = some y → ∃ x : α,ok x ∧ ∀ j,j < sz → cs[j]? = some (en x j))
    (hf : DataW.trod enc P W 0 (fun _ => true) true fuel t cs = some y) :
    ∃ (A : Option Addr) (cap : Nat) (xs : List α),cs = [.slice A xs.length cap] ∧ RdE sz en W W.heap.size A xs ∧ xs.length ≤ cap ∧ cap ≤ maxLen ∧ ∀ x ∈ xs,ok x:=by
 obtain ⟨d,p⟩:=y
 rcases Go.Deep.open_slice ht hf with ⟨hcs,_⟩ | ⟨a,len,cap,m,n,D,Pl,hcs,_,hl,hm,hmm,_,hi⟩
 ·exact ⟨none,0,[],hcs,fun h => absurd h (by simp),Nat.le_refl _,Nat.zero_le _,by simp⟩
 ·have hm' : m = cap:=by simpa using hmm
  subst hm'
  have hex : ∀ i,i < m → ∃ x : α,ok x ∧ ∀ j,j < sz → W.cell? (a.add (i * sz + j)) = some (en x j):=by
   intro i him
   obtain ⟨cs',hc,hy⟩:=hi i him
   obtain ⟨x,hx,hxj⟩:=hel _ _ _ hy
   obtain ⟨_,hcl,hat⟩:=World.cells?_some hc
   refine ⟨x,hx,fun j hj => ?_⟩
   rw [hC] at hat
   rw [← hxj j hj,← hat j hj,Go.Deep.add_add]
  obtain ⟨f,hfx⟩:=Go.Deep.choose_lt hex
  have hlen : ((List.range len).map f).length = len:=by simp
  have hgt : ∀ k,k < len → gt ((List.range len).map f) k = f k:=fun k hk => by unfold gt; simp [hk]
  refine ⟨some a,m,(List.range len).map f,by rw [hlen]; exact hcs,?_,by rw [hlen]; exact hl,hm,fun x hx => ?_⟩
  ·intro h0
   rw [hlen] at h0
   obtain ⟨b,off,spot⟩:=a
   have hc0:=(hfx 0 (by omega)).2 0 hsz
   have hspot : spot = none:=by simpa [Addr.add] using World.cell?_spot hc0
   subst hspot
   have hb:=World.block_lt_of_cell? W _ hc0
   rw [add_none] at hb
   refine ⟨b,off,rfl,hb,fun j hj => ?_⟩
   rw [hlen] at hj
   have hjk : j / sz < len:=(Nat.div_lt_iff_lt_mul hsz).2 hj
   have hj':=(hfx (j / sz) (by omega)).2 (j % sz) (Nat.mod_lt _ hsz)
   rw [add_none,Nat.mul_comm,Nat.div_add_mod] at hj'
   unfold cE
   rw [hj',hgt _ hjk]
  ·simp only [List.mem_map,List.mem_range] at hx
   obtain ⟨k,hk,rfl⟩:=hx
   exact (hfx k (by omega)).1
theorem cells_Bridge : Tryz.prog.cellsOf 27 = 5:=by kernel_rfl
theorem cells_Bridge_items : Tryz.prog.cellsOf 24 = 1:=by kernel_rfl
theorem cells_Bridge_fans : Tryz.prog.cellsOf 25 = 1:=by kernel_rfl
theorem open_Bridge {base : Nat} {v : Value} {d : DataW H} {p : List MemPlace} (hv : Value.okWide Tryz.prog W .any base 27 v) (h : DataW.Trod enc Tryz.prog W 0 (fun _ => true) true 27 v d p) :
    ∃ (who : ElHandle) (I : Option Addr) (ci : Nat) (is : List ElItem) (F : Option Addr) (cf : Nat) (fs : List ElHandle) (nx : Int),v = .agg #[.string who.1,.string who.2,.slice I is.length ci,.slice F fs.length cf,.int .i64 nx] ∧ okwHandle who ∧
     (RdE 4 encItem W W.heap.size I is ∧ is.length ≤ ci ∧ ci ≤ maxLen ∧ ∀ x ∈ is,okwItem x) ∧ (RdE 2 encHandle W W.heap.size F fs ∧ fs.length ≤ cf ∧ cf ≤ maxLen ∧ ∀ x ∈ fs,okwHandle x) ∧ (Lit.int .i64 nx).wf = true:=by
 obtain ⟨cs,rfl,hsz⟩:=okWide_struct Tryz.underlying27 hv
 obtain ⟨fuel,hf⟩:=h
 obtain ⟨xs,k,_,_,hlen,hxl,hf⟩:=DataW.trod_struct Tryz.underlying27 hf
 obtain ⟨cs⟩:=cs
 have hlen' : cs.length = 5:=hlen.trans cells_Bridge
 match cs,hlen',xs,hxl with
 | [c0,c1,c2,c3,c4],_,[y0,y1,y2,y3],_ =>
  have f0 : DataW.trod enc Tryz.prog W 0 (fun _ => true) true k 23 [c0,c1] = some y0:=by simpa [Value.cells,cells_Handle] using hf 0 _ rfl
  have f1 : DataW.trod enc Tryz.prog W 0 (fun _ => true) true k 24 [c2] = some y1:=by simpa [Value.cells,cells_Handle,cells_Bridge_items] using hf 1 _ rfl
  have f2 : DataW.trod enc Tryz.prog W 0 (fun _ => true) true k 25 [c3] = some y2:=by simpa [Value.cells,cells_Handle,cells_Bridge_items,cells_Bridge_fans] using hf 2 _ rfl
  have f3 : DataW.trod enc Tryz.prog W 0 (fun _ => true) true k 3 [c4] = some y3:=by simpa [Value.cells,cells_Handle,cells_Bridge_items,cells_Bridge_fans,cells_Item_int] using hf 3 _ rfl
  obtain ⟨who,ow,cw⟩:=el_Handle k _ _ f0
  have e0 : c0 = encHandle who 0:=by simpa using cw 0 (by omega)
  have e1 : c1 = encHandle who 1:=by simpa using cw 1 (by omega)
  obtain ⟨I,ci,is,e2,rI,lI,mI,wI⟩:=open_raw Tryz.underlying24 cells_Item (by omega) el_Item f1
  obtain ⟨F,cf,fs,e3,rF,lF,mF,wF⟩:=open_raw Tryz.underlying25 cells_Handle (by omega) el_Handle f2
  obtain ⟨nx,e4,_,w4⟩:=DataW.trod_int Tryz.underlying3 f3
  simp only [List.cons.injEq,and_true] at e2 e3 e4
  subst e0; subst e1; subst e2; subst e3; subst e4
  exact ⟨who,I,ci,is,F,cf,fs,nx,rfl,ow,⟨rI,lI,mI,wI⟩,⟨rF,lF,mF,wF⟩,w4⟩
end
end Go.Proofs.YtfnmlffpnmmcdaaGreatDoor
namespace Go.Proofs.YtfnmlffpnmmcdaaGreatDoor
set_option maxRecDepth 100000
open Go.ChangeShapes Go.WideShapes Go.ChangeAt Go.RowKit
theorem cells_Str : Tryz.prog.cellsOf 9 = 1:=by kernel_rfl
section
variable {H : Type} {enc : TypeId × Value → H} {W : World}
theorem el_Str (m : Nat) (cs : List Value) (y : DataW H × List MemPlace) (h : DataW.trod enc Tryz.prog W 0 (fun _ => true) true m 9 cs = some y) : ∃ x : ByteArray,x.size ≤ maxLen ∧ ∀ j,j < 1 → cs[j]? = some (encStr x j):=by
 obtain ⟨s,rfl,_,hs⟩:=DataW.trod_string Tryz.underlying9 h
 exact ⟨s,hs,fun j hj => by
  rcases (by omega : j = 0) with rfl
  rfl⟩
theorem open_StrS {base : Nat} {v : Value} {d : DataW H} {p : List MemPlace} (hv : Value.okWide Tryz.prog W .any base 51 v) (h : DataW.Trod enc Tryz.prog W 0 (fun _ => true) true 51 v d p) :
    ∃ (A : Option Addr) (cap : Nat) (xs : List ByteArray),v = .slice A xs.length cap ∧ RdE 1 encStr W W.heap.size A xs ∧ xs.length ≤ cap ∧ cap ≤ maxLen ∧ ∀ x ∈ xs,x.size ≤ maxLen :=
 open_elems Tryz.underlying51 cells_Str (by omega) el_Str hv h
end
end Go.Proofs.YtfnmlffpnmmcdaaGreatDoor
namespace Go.Proofs.YtfnmlffpnmmcdaaGreatDoor
set_option maxRecDepth 100000
open Go.RowKit
def From (m : Nat) (A : Option Addr) : Prop:=∀ b,blk A = some b → m ≤ b
def Upto (m : Nat) (A : Option Addr) : Prop:=∀ b,blk A = some b → b < m
theorem ne_of_bounds {A R : Option Addr} {m n : Nat} (h : Upto m A) (h2 : From n R) (hmn : m ≤ n) : ∀ b,blk A = some b → blk R ≠ some b:=fun b hb e => by
 have:=h b hb
 have:=h2 b e
 omega
theorem ne_of_bounds' {A R : Option Addr} {m n : Nat} (h : From m A) (h2 : Upto n R) (hmn : n ≤ m) : ∀ b,blk A = some b → blk R ≠ some b:=fun b hb e => by
 have:=h b hb
 have:=h2 b e
 omega
def madeS (who : ElHandle) (is : List ElItem) (fs : List ElHandle) (nx : Int) : Spec:=fun v w => ∃ (I' : Option Addr) (ci' : Nat) (F' : Option Addr) (cf' : Nat),v = .agg #[.string who.1,.string who.2,.slice I' is.length ci',.slice F' fs.length cf',.int .i64 nx] ∧ RdE 4 encItem w w.heap.size I' is ∧ RdE 2 encHandle w w.heap.size F' fs
theorem madeS_stb (who : ElHandle) (is : List ElItem) (fs : List ElHandle) (nx : Int) : StbB (madeS who is fs nx):=fun _ _ _ h ⟨A,c,A',c',h1,h2,h3⟩ => ⟨A,c,A',c',h1,(h2.below h).more h.size,(h3.below h).more h.size⟩
set_option maxHeartbeats 12800000 in
theorem FnExactBridgeLines_walk (who : ElHandle) (I : Option Addr) (ci : Nat) (is : List ElItem) (F : Option Addr) (cf : Nat) (fs : List ElHandle) (nx : Int) (A : Option Addr) (ca : Nat) (ls : List ByteArray) (w : World) (ow : okwHandle who) (hI : RdE 4 encItem w w.heap.size I is) (hF : RdE 2 encHandle w w.heap.size F fs) (lI : is.length ≤ ci) (mI : ci ≤ maxLen) (wI : ∀ x ∈ is,okwItem x) (lF : fs.length ≤ cf) (mF : cf ≤ maxLen) (wF : ∀ x ∈ fs,okwHandle x) (hA : RdE 1 encStr w w.heap.size A ls) (lA : ls.length ≤ ca) (mA : ca ≤ maxLen) (wA : ∀ x ∈ ls,x.size ≤ maxLen) (hT : KwTab w) (hE : EsTab w) :
    Calls Tryz.prog 5 #[.agg #[Value.string who.1,Value.string who.2,Value.slice I is.length ci,Value.slice F fs.length cf,Value.int .i64 nx],.slice A ls.length ca] w fun e w' => e = .returned (.bool true) ∧ Below w.heap.size w w':=by
 unfold maxLen at mI mF mA
 have HIZ:=Lib.hid (show ∀ k,k < is.length → (gt is k).1.size ≤ maxLen ∧ (gt is k).2.1.size ≤ maxLen ∧ (gt is k).2.2.1.size ≤ maxLen from fun k hk => okwszItem (wI _ (gt_mem hk)))
 have HFZ:=Lib.hid (show ∀ k,k < fs.length → (gt fs k).1.size ≤ maxLen ∧ (gt fs k).2.size ≤ maxLen from fun k hk => okwszHandle (wF _ (gt_mem hk)))
 have HLZ:=Lib.hid (show ∀ k,k < ls.length → (gt ls k).size ≤ maxLen from fun k hk => wA _ (gt_mem hk))
 have hw0:=okwVHandle_0 ow
 have hw1:=okwVHandle_1 ow
 have HT:=Lib.hid hT
 have HE:=Lib.hid hE
 clear wI wF wA ow hT hE
 have oA : Own (w.alloc (.cells #[Value.string who.1,Value.string who.2,Value.slice I is.length ci,Value.slice F fs.length cf,Value.int .i64 nx] 27)) w.heap.size 27 5 (some ⟨w.heap.size,0,none⟩) 1 1 (bxC who I is.length ci F fs.length cf nx):=Own.lit w 27 5 1 #[Value.string who.1,Value.string who.2,Value.slice I is.length ci,Value.slice F fs.length cf,Value.int .i64 nx] (bxC who I is.length ci F fs.length cf nx) (by simp only [maxLen]; omega) rfl
 have kA : Below w.heap.size w (w.alloc (.cells #[Value.string who.1,Value.string who.2,Value.slice I is.length ci,Value.slice F fs.length cf,Value.int .i64 nx] 27)):=(Below.refl _ _).alloc (Nat.le_refl _) _
 have hsz:=fun W h h2 hB => szBridge_any who I ci is F cf fs nx 1048576 W w.heap.size h h2 hB (by omega) (by omega) HIZ.out HFZ.out hw0 hw1 (by omega) (by omega)
 have a0:=(show _ = some (Value.string who.1) from oA.cell rfl (j:=0) (by omega))
 have a1:=(show _ = some (Value.string who.2) from oA.cell rfl (j:=1) (by omega))
 have a2:=(show _ = some (Value.slice I is.length ci) from oA.cell rfl (j:=2) (by omega))
 have a3:=(show _ = some (Value.slice F fs.length cf) from oA.cell rfl (j:=3) (by omega))
 have a4:=(show _ = some (Value.int .i64 nx) from oA.cell rfl (j:=4) (by omega))
 by_cases hz : (byBridge who is fs : Int) ≤ 1048576
 ·have hil : is.length ≤ 1048576:=by unfold byBridge totItem at hz; omega
  have hfl : fs.length ≤ 1048576:=by unfold byBridge totHandle at hz; omega
  have hd : decide (1048576 - (byBridge who is fs : Int) < 0) = false:=decide_eq_false (by omega)
  rw [szL_yes hz] at hsz
  have HS:=Lib.hid hsz
  clear hsz
  have hss:=fun W h hB => szStringS_any A ca w.heap.size ls (1048576 - (byBridge who is fs : Int)) W h hB (by omega) HLZ.out (by omega) (by omega)
  by_cases hy : (totStr ls : Int) ≤ 1048576 - (byBridge who is fs : Int)
  ·have hll : ls.length ≤ 1048576:=by unfold totStr at hy; omega
   have hd2 : decide (1048576 - (byBridge who is fs : Int) - (totStr ls : Int) < 0) = false:=decide_eq_false (by omega)
   rw [szL_yes hy] at hss
   have HSS:=Lib.hid hss
   clear hss
   go_enter Tryz.func5,Tryz.ntmps5
   go_wp2_with fail
   generalize (w.alloc (.cells #[Value.string who.1,Value.string who.2,Value.slice I is.length ci,Value.slice F fs.length cf,Value.int .i64 nx] 27)) = wA at *
   refine (HS.out wA (hI.below kA) (hF.below kA) kA.size).mono ?_
   rintro e v0 ⟨rfl,b0⟩
   have k0:=kA.trans (b0.mono kA.size)
   have oA0:=Own.below oA b0
   go_wp2_with fail
   refine (HSS.out v0 (hA.below k0) k0.size).mono ?_
   rintro e v1 ⟨rfl,b1⟩
   have k1:=k0.trans (b1.mono k0.size)
   have oA1:=Own.below oA0 b1
   clear hz hy oA kA b0 a0 a1 a2 a3 a4 k0 oA0 b1
   have a0:=(show _ = some (Value.string who.1) from oA1.cell rfl (j:=0) (by omega))
   have a1:=(show _ = some (Value.string who.2) from oA1.cell rfl (j:=1) (by omega))
   have a2:=(show _ = some (Value.slice I is.length ci) from oA1.cell rfl (j:=2) (by omega))
   have a3:=(show _ = some (Value.slice F fs.length cf) from oA1.cell rfl (j:=3) (by omega))
   have a4:=(show _ = some (Value.int .i64 nx) from oA1.cell rfl (j:=4) (by omega))
   go_wp2_with fail
   refine (toBridge_any who I ci is F cf fs nx v1 w.heap.size (hI.below k1) (hF.below k1) k1.size hil hfl).mono ?_
   rintro e v2 ⟨I1,c1,F1,d1,mm,rfl,qI2,_,hm,qFX,bq⟩
   have qF2:=Own.more qFX hm
   clear a0 a1 a2 a3 a4
   have z2:=bq.size
   have k2:=k1.trans (bq.mono k1.size)
   have zw2:=k2.size
   have oA2:=Own.below oA1 bq
   clear oA1 k1 bq
   clear qFX hm
   have LqI : From v1.heap.size I1:=fun b hb => (Own.lt qI2 hb).1
   have UqI : Upto v2.heap.size I1:=fun b hb => (Own.lt qI2 hb).2
   have LqF : From v1.heap.size F1:=fun b hb => (Own.lt qF2 hb).1
   have UqF : Upto v2.heap.size F1:=fun b hb => (Own.lt qF2 hb).2
   go_wp2_with fail
   refine (toStringS_any A ca w.heap.size ls v2 (hA.below k2) k2.size hll).mono ?_
   rintro e v3 ⟨A1,rfl,qS3,bq⟩
   have z3:=bq.size
   have k3:=k2.trans (bq.mono k2.size)
   have zw3:=k3.size
   have oA3:=Own.below oA2 bq
   have qI3:=Own.below qI2 bq
   have qF3:=Own.below qF2 bq
   clear oA2 qI2 qF2 k2 bq
   have LqS : From v2.heap.size A1:=fun b hb => (Own.lt qS3 hb).1
   have UqS : Upto v3.heap.size A1:=fun b hb => (Own.lt qS3 hb).2
   go_wp2_with fail
   refine (specBridgeLines_any ls A1 ls.length who is fs nx I1 c1 F1 d1 v3.heap.size v3 (OwnE.rd qS3) (OwnE.rd qI3) (OwnE.rd qF3) (Nat.le_refl _) hll hil hfl HLZ.out HIZ.out HFZ.out hw0 hw1).mono ?_
   rintro e v4 ⟨Iw,iw,Fw,fw,Sw,sw,rfl,pWI4,pWF4,pWS4,bq⟩
   have z4:=bq.size
   have k4:=k3.trans (bq.mono k3.size)
   have zw4:=k4.size
   have oA4:=Own.below oA3 bq
   have qI4:=Own.below qI3 bq
   have qF4:=Own.below qF3 bq
   have qS4:=Own.below qS3 bq
   clear oA3 qI3 qF3 qS3 k3 bq
   obtain ⟨hRi,hRf,hRs⟩:=blsR_valid (b:=(who,is,fs,nx)) (ls:=ls)
   have HRR : ∃ r,r = (blsR (who,is,fs,nx) ls):=⟨_,rfl⟩
   obtain ⟨r,hr⟩:=HRR
   rw [← hr] at hRi hRf hRs pWI4 pWF4 pWS4 ⊢
   have HR:=Lib.hid hr
   clear hr
   have ri8:=fd_len hRi
   have rf10:=(Fv.of hRf).1
   clear hRi hRf
   have LpWI : From v3.heap.size Iw:=fun b hb => (Own.lt pWI4 hb).1
   have UpWI : Upto v4.heap.size Iw:=fun b hb => (Own.lt pWI4 hb).2
   have LpWF : From v3.heap.size Fw:=fun b hb => (Own.lt pWF4 hb).1
   have UpWF : Upto v4.heap.size Fw:=fun b hb => (Own.lt pWF4 hb).2
   have LpWS : From v3.heap.size Sw:=fun b hb => (Own.lt pWS4 hb).1
   have UpWS : Upto v4.heap.size Sw:=fun b hb => (Own.lt pWS4 hb).2
   clear qI4 qF4 qS4
   have oW5 : Own (v4.alloc (.cells #[Value.string r.1.1.1,Value.string r.1.1.2,Value.slice Iw r.1.2.1.length iw,Value.slice Fw r.1.2.2.1.length fw,Value.int .i64 r.1.2.2.2] 33)) v4.heap.size 33 5 (some ⟨v4.heap.size,0,none⟩) 1 1 (bxC r.1.1 Iw r.1.2.1.length iw Fw r.1.2.2.1.length fw r.1.2.2.2):=Own.lit v4 33 5 1 #[Value.string r.1.1.1,Value.string r.1.1.2,Value.slice Iw r.1.2.1.length iw,Value.slice Fw r.1.2.2.1.length fw,Value.int .i64 r.1.2.2.2] (bxC r.1.1 Iw r.1.2.1.length iw Fw r.1.2.2.1.length fw r.1.2.2.2) (by simp only [maxLen]; omega) rfl
   have bb : Below v4.heap.size v4 (v4.alloc (.cells #[Value.string r.1.1.1,Value.string r.1.1.2,Value.slice Iw r.1.2.1.length iw,Value.slice Fw r.1.2.2.1.length fw,Value.int .i64 r.1.2.2.2] 33)):=(Below.refl _ _).alloc (Nat.le_refl _) _
   have z5:=bb.size
   have k5:=k4.trans (bb.mono k4.size)
   have oA5:=Own.below oA4 bb
   have pWI5:=Own.below pWI4 bb
   have pWF5:=Own.below pWF4 bb
   have pWS5:=Own.below pWS4 bb
   clear oA4 pWI4 pWF4 pWS4 k4
   go_upto_region 9 with fail
   clear bb
   generalize (v4.alloc (.cells #[Value.string r.1.1.1,Value.string r.1.1.2,Value.slice Iw r.1.2.1.length iw,Value.slice Fw r.1.2.2.1.length fw,Value.int .i64 r.1.2.2.2] 33)) = v5 at *
   have a0:=(show _ = some (Value.string who.1) from oA5.cell rfl (j:=0) (by omega))
   have a1:=(show _ = some (Value.string who.2) from oA5.cell rfl (j:=1) (by omega))
   have a2:=(show _ = some (Value.slice I is.length ci) from oA5.cell rfl (j:=2) (by omega))
   have a3:=(show _ = some (Value.slice F fs.length cf) from oA5.cell rfl (j:=3) (by omega))
   have a4:=(show _ = some (Value.int .i64 nx) from oA5.cell rfl (j:=4) (by omega))
   go_wp2_with fail
   refine (toBridge_any who I ci is F cf fs nx v5 w.heap.size (hI.below k5) (hF.below k5) k5.size hil hfl).mono ?_
   rintro e v6 ⟨I2,c2,F2,d2,mm,rfl,pXI6,_,hm,pXFX,bq⟩
   have pXF6:=Own.more pXFX hm
   clear a0 a1 a2 a3 a4
   have z6:=bq.size
   have k6:=k5.trans (bq.mono k5.size)
   have zw6:=k6.size
   have oA6:=Own.below oA5 bq
   have pWI6:=Own.below pWI5 bq
   have pWF6:=Own.below pWF5 bq
   have pWS6:=Own.below pWS5 bq
   have oW6:=Own.below oW5 bq
   clear oA5 pWI5 pWF5 pWS5 oW5 k5 bq
   clear pXFX hm
   have LpXI : From v5.heap.size I2:=fun b hb => (Own.lt pXI6 hb).1
   have UpXI : Upto v6.heap.size I2:=fun b hb => (Own.lt pXI6 hb).2
   have LpXF : From v5.heap.size F2:=fun b hb => (Own.lt pXF6 hb).1
   have UpXF : Upto v6.heap.size F2:=fun b hb => (Own.lt pXF6 hb).2
   have oX7 : Own (v6.alloc (.cells #[Value.string who.1,Value.string who.2,Value.slice I2 is.length c2,Value.slice F2 fs.length d2,Value.int .i64 nx] 33)) v6.heap.size 33 5 (some ⟨v6.heap.size,0,none⟩) 1 1 (bxC who I2 is.length c2 F2 fs.length d2 nx):=Own.lit v6 33 5 1 #[Value.string who.1,Value.string who.2,Value.slice I2 is.length c2,Value.slice F2 fs.length d2,Value.int .i64 nx] (bxC who I2 is.length c2 F2 fs.length d2 nx) (by simp only [maxLen]; omega) rfl
   have bb : Below v6.heap.size v6 (v6.alloc (.cells #[Value.string who.1,Value.string who.2,Value.slice I2 is.length c2,Value.slice F2 fs.length d2,Value.int .i64 nx] 33)):=(Below.refl _ _).alloc (Nat.le_refl _) _
   have z7:=bb.size
   have k7:=k6.trans (bb.mono k6.size)
   have oA7:=Own.below oA6 bb
   have pWI7:=Own.below pWI6 bb
   have pWF7:=Own.below pWF6 bb
   have pWS7:=Own.below pWS6 bb
   have oW7:=Own.below oW6 bb
   have pXI7:=Own.below pXI6 bb
   have pXF7:=Own.below pXF6 bb
   clear oA6 pWI6 pWF6 pWS6 oW6 pXI6 pXF6 k6
   go_upto_region 10 with fail
   clear bb
   generalize (v6.alloc (.cells #[Value.string who.1,Value.string who.2,Value.slice I2 is.length c2,Value.slice F2 fs.length d2,Value.int .i64 nx] 33)) = v7 at *
   go_wp2_with fail
   refine (toStringS_any A ca w.heap.size ls v7 (hA.below k7) k7.size hll).mono ?_
   rintro e v8 ⟨A2,rfl,pXS8,bq⟩
   have z8:=bq.size
   have k8:=k7.trans (bq.mono k7.size)
   have zw8:=k8.size
   have oA8:=Own.below oA7 bq
   have pWI8:=Own.below pWI7 bq
   have pWF8:=Own.below pWF7 bq
   have pWS8:=Own.below pWS7 bq
   have oW8:=Own.below oW7 bq
   have pXI8:=Own.below pXI7 bq
   have pXF8:=Own.below pXF7 bq
   have oX8:=Own.below oX7 bq
   clear oA7 pWI7 pWF7 pWS7 oW7 pXI7 pXF7 oX7 k7 bq
   have LpXS : From v7.heap.size A2:=fun b hb => (Own.lt pXS8 hb).1
   have UpXS : Upto v8.heap.size A2:=fun b hb => (Own.lt pXS8 hb).2
   have a0:=(show _ = some (Value.string who.1) from oX8.cell rfl (j:=0) (by omega))
   have a1:=(show _ = some (Value.string who.2) from oX8.cell rfl (j:=1) (by omega))
   have a2:=(show _ = some (Value.slice I2 is.length c2) from oX8.cell rfl (j:=2) (by omega))
   have a3:=(show _ = some (Value.slice F2 fs.length d2) from oX8.cell rfl (j:=3) (by omega))
   have a4:=(show _ = some (Value.int .i64 nx) from oX8.cell rfl (j:=4) (by omega))
   go_wp2_with fail
   refine (implBridgeLines_any ls A2 ls.length who is fs nx I2 c2 F2 d2 v8.heap.size v8 (OwnE.rd pXS8) (OwnE.rd pXI8) (OwnE.rd pXF8) (Nat.le_refl _) hll hil hfl (OwnE.capLe pXI8) HLZ.out HIZ.out HFZ.out hw0 hw1 (HT.out.below k8 (Nat.le_refl _)) (HE.out.below k8 (Nat.le_refl _))).mono ?_
   rintro e v9 ⟨Ig,ig,Fg,fg,Sg,sg,rfl,pGI9,pGF9,pGS9,bq⟩
   rw [← HR.out] at pGI9 pGF9 pGS9 ⊢
   have z9:=bq.size
   have k9:=k8.trans (bq.mono k8.size)
   have zw9:=k9.size
   have oA9:=Own.below oA8 bq
   have pWI9:=Own.below pWI8 bq
   have pWF9:=Own.below pWF8 bq
   have pWS9:=Own.below pWS8 bq
   have oW9:=Own.below oW8 bq
   have pXI9:=Own.below pXI8 bq
   have pXF9:=Own.below pXF8 bq
   have oX9:=Own.below oX8 bq
   have pXS9:=Own.below pXS8 bq
   clear oA8 pWI8 pWF8 pWS8 oW8 pXI8 pXF8 oX8 pXS8 k8 bq
   have LpGI : From v8.heap.size Ig:=fun b hb => (Own.lt pGI9 hb).1
   have UpGI : Upto v9.heap.size Ig:=fun b hb => (Own.lt pGI9 hb).2
   have LpGF : From v8.heap.size Fg:=fun b hb => (Own.lt pGF9 hb).1
   have UpGF : Upto v9.heap.size Fg:=fun b hb => (Own.lt pGF9 hb).2
   have LpGS : From v8.heap.size Sg:=fun b hb => (Own.lt pGS9 hb).1
   have UpGS : Upto v9.heap.size Sg:=fun b hb => (Own.lt pGS9 hb).2
   clear a0 a1 a2 a3 a4
   have oG10 : Own (v9.alloc (.cells #[Value.string r.1.1.1,Value.string r.1.1.2,Value.slice Ig r.1.2.1.length ig,Value.slice Fg r.1.2.2.1.length fg,Value.int .i64 r.1.2.2.2] 33)) v9.heap.size 33 5 (some ⟨v9.heap.size,0,none⟩) 1 1 (bxC r.1.1 Ig r.1.2.1.length ig Fg r.1.2.2.1.length fg r.1.2.2.2):=Own.lit v9 33 5 1 #[Value.string r.1.1.1,Value.string r.1.1.2,Value.slice Ig r.1.2.1.length ig,Value.slice Fg r.1.2.2.1.length fg,Value.int .i64 r.1.2.2.2] (bxC r.1.1 Ig r.1.2.1.length ig Fg r.1.2.2.1.length fg r.1.2.2.2) (by simp only [maxLen]; omega) rfl
   have bb : Below v9.heap.size v9 (v9.alloc (.cells #[Value.string r.1.1.1,Value.string r.1.1.2,Value.slice Ig r.1.2.1.length ig,Value.slice Fg r.1.2.2.1.length fg,Value.int .i64 r.1.2.2.2] 33)):=(Below.refl _ _).alloc (Nat.le_refl _) _
   have z10:=bb.size
   have k10:=k9.trans (bb.mono k9.size)
   have oA10:=Own.below oA9 bb
   have pWI10:=Own.below pWI9 bb
   have pWF10:=Own.below pWF9 bb
   have pWS10:=Own.below pWS9 bb
   have oW10:=Own.below oW9 bb
   have pXI10:=Own.below pXI9 bb
   have pXF10:=Own.below pXF9 bb
   have oX10:=Own.below oX9 bb
   have pXS10:=Own.below pXS9 bb
   have pGI10:=Own.below pGI9 bb
   have pGF10:=Own.below pGF9 bb
   have pGS10:=Own.below pGS9 bb
   clear oA9 pWI9 pWF9 pWS9 oW9 pXI9 pXF9 oX9 pXS9 pGI9 pGF9 pGS9 k9
   go_upto_region 12 with fail
   clear bb
   generalize (v9.alloc (.cells #[Value.string r.1.1.1,Value.string r.1.1.2,Value.slice Ig r.1.2.1.length ig,Value.slice Fg r.1.2.2.1.length fg,Value.int .i64 r.1.2.2.2] 33)) = v10 at *
   have a0:=(show _ = some (Value.string r.1.1.1) from oG10.cell rfl (j:=0) (by omega))
   have a1:=(show _ = some (Value.string r.1.1.2) from oG10.cell rfl (j:=1) (by omega))
   have a2:=(show _ = some (Value.slice Ig r.1.2.1.length ig) from oG10.cell rfl (j:=2) (by omega))
   have a3:=(show _ = some (Value.slice Fg r.1.2.2.1.length fg) from oG10.cell rfl (j:=3) (by omega))
   have a4:=(show _ = some (Value.int .i64 r.1.2.2.2) from oG10.cell rfl (j:=4) (by omega))
   have y0:=(show _ = some (Value.string r.1.1.1) from oW10.cell rfl (j:=0) (by omega))
   have y1:=(show _ = some (Value.string r.1.1.2) from oW10.cell rfl (j:=1) (by omega))
   have y2:=(show _ = some (Value.slice Iw r.1.2.1.length iw) from oW10.cell rfl (j:=2) (by omega))
   have y3:=(show _ = some (Value.slice Fw r.1.2.2.1.length fw) from oW10.cell rfl (j:=3) (by omega))
   have y4:=(show _ = some (Value.int .i64 r.1.2.2.2) from oW10.cell rfl (j:=4) (by omega))
   go_wp2_with fail
   refine (eqBridge_self r.1.1 Ig ig r.1.2.1 Fg fg r.1.2.2.1 r.1.2.2.2 Iw Fw iw fw v10 v10.heap.size (OwnE.rd pGI10) (OwnE.rd pGF10) (Nat.le_refl _) (OwnE.rd pWI10) (OwnE.rd pWF10) (by omega) (by omega)).mono ?_
   rintro e v11 ⟨rfl,bq⟩
   clear a0 a1 a2 a3 a4 y0 y1 y2 y3 y4
   have z11:=bq.size
   have k11:=k10.trans (bq.mono k10.size)
   have zw11:=k11.size
   have oA11:=Own.below oA10 bq
   have pWI11:=Own.below pWI10 bq
   have pWF11:=Own.below pWF10 bq
   have pWS11:=Own.below pWS10 bq
   have oW11:=Own.below oW10 bq
   have pXI11:=Own.below pXI10 bq
   have pXF11:=Own.below pXF10 bq
   have oX11:=Own.below oX10 bq
   have pXS11:=Own.below pXS10 bq
   have pGI11:=Own.below pGI10 bq
   have pGF11:=Own.below pGF10 bq
   have pGS11:=Own.below pGS10 bq
   have oG11:=Own.below oG10 bq
   clear oA10 pWI10 pWF10 pWS10 oW10 pXI10 pXF10 oX10 pXS10 pGI10 pGF10 pGS10 oG10 k10 bq
   go_wp2_with fail
   refine (eqStringS_any Sg Sw sg sw v11.heap.size r.2 r.2 v11 (OwnE.rd pGS11) (OwnE.rd pWS11) (Nat.le_refl _) (by omega) (by omega)).mono ?_
   rintro e v12 ⟨rfl,bq⟩
   rw [sameB_self]
   have z12:=bq.size
   have k12:=k11.trans (bq.mono k11.size)
   have zw12:=k12.size
   have oA12:=Own.below oA11 bq
   have pWI12:=Own.below pWI11 bq
   have pWF12:=Own.below pWF11 bq
   have pWS12:=Own.below pWS11 bq
   have oW12:=Own.below oW11 bq
   have pXI12:=Own.below pXI11 bq
   have pXF12:=Own.below pXF11 bq
   have oX12:=Own.below oX11 bq
   have pXS12:=Own.below pXS11 bq
   have pGI12:=Own.below pGI11 bq
   have pGF12:=Own.below pGF11 bq
   have pGS12:=Own.below pGS11 bq
   have oG12:=Own.below oG11 bq
   clear oA11 pWI11 pWF11 pWS11 oW11 pXI11 pXF11 oX11 pXS11 pGI11 pGF11 pGS11 oG11 k11 bq
   have a0:=(show _ = some (Value.string who.1) from oX12.cell rfl (j:=0) (by omega))
   have a1:=(show _ = some (Value.string who.2) from oX12.cell rfl (j:=1) (by omega))
   have a2:=(show _ = some (Value.slice I2 is.length c2) from oX12.cell rfl (j:=2) (by omega))
   have a3:=(show _ = some (Value.slice F2 fs.length d2) from oX12.cell rfl (j:=3) (by omega))
   have a4:=(show _ = some (Value.int .i64 nx) from oX12.cell rfl (j:=4) (by omega))
   have y0:=(show _ = some (Value.string who.1) from oA12.cell rfl (j:=0) (by omega))
   have y1:=(show _ = some (Value.string who.2) from oA12.cell rfl (j:=1) (by omega))
   have y2:=(show _ = some (Value.slice I is.length ci) from oA12.cell rfl (j:=2) (by omega))
   have y3:=(show _ = some (Value.slice F fs.length cf) from oA12.cell rfl (j:=3) (by omega))
   have y4:=(show _ = some (Value.int .i64 nx) from oA12.cell rfl (j:=4) (by omega))
   have zX:=(oX12.lt (b:=v6.heap.size) rfl).2
   have zAh:=(oA12.lt (b:=w.heap.size) rfl).2
   go_wp2_with fail
   refine wp_region_makes 4 [(isS (.agg #[Value.string who.1,Value.string who.2,Value.slice I2 is.length c2,Value.slice F2 fs.length d2,Value.int .i64 nx])),(isS (.agg #[Value.string who.1,Value.string who.2,Value.slice I is.length ci,Value.slice F fs.length cf,Value.int .i64 nx])),(madeS who is fs nx),(isS (.bool true))] [0,0,0,0] (by kernel_rfl) (by kernel_rfl) (by rfl) (by rfl) (by rfl) ?_ ?_ ?_
   ·repeat (first | exact stbB_nil | refine stbB_cons (by first | exact isS_stb _ | exact madeS_stb _ _ _ _) ?_)
   ·simp only [List.take_succ_cons,List.take_zero]
    refine looseSteps_cons (fun k a' w' hk0' hk1' hR hG hkp hd => ?_) ?_
    ·have hR0 : Below v12.drew.heap.size v12.drew w':=hR
     have hRb : Below v12.heap.size v12 w':=⟨hR0.os,hR0.tape,hR0.output,hR0.size,hR0.block⟩
     have k8' : a'.tmps.getD 8 undef = .pointer (some ⟨v6.heap.size,0,none⟩):=hkp 8 (by rfl)
     have rr0:=(hRb.cell (p:=⟨v6.heap.size,0,none⟩) (by exact zX)).trans a0
     have rr1:=(hRb.cell (p:=⟨v6.heap.size,1,none⟩) (by exact zX)).trans a1
     have rr2:=(hRb.cell (p:=⟨v6.heap.size,2,none⟩) (by exact zX)).trans a2
     have rr3:=(hRb.cell (p:=⟨v6.heap.size,3,none⟩) (by exact zX)).trans a3
     have rr4:=(hRb.cell (p:=⟨v6.heap.size,4,none⟩) (by exact zX)).trans a4
     unfold looseRun
     go_simp
     exact ⟨Below.refl _ _,trivial,rfl⟩
    refine looseSteps_cons (fun k a' w' hk0' hk1' hR hG hkp hd => ?_) ?_
    ·have hR0 : Below v12.drew.heap.size v12.drew w':=hR
     have hRb : Below v12.heap.size v12 w':=⟨hR0.os,hR0.tape,hR0.output,hR0.size,hR0.block⟩
     have k2' : a'.tmps.getD 2 undef = .pointer (some ⟨w.heap.size,0,none⟩):=hkp 2 (by rfl)
     have rr0:=(hRb.cell (p:=⟨w.heap.size,0,none⟩) (by exact zAh)).trans y0
     have rr1:=(hRb.cell (p:=⟨w.heap.size,1,none⟩) (by exact zAh)).trans y1
     have rr2:=(hRb.cell (p:=⟨w.heap.size,2,none⟩) (by exact zAh)).trans y2
     have rr3:=(hRb.cell (p:=⟨w.heap.size,3,none⟩) (by exact zAh)).trans y3
     have rr4:=(hRb.cell (p:=⟨w.heap.size,4,none⟩) (by exact zAh)).trans y4
     unfold looseRun
     go_simp
     exact ⟨Below.refl _ _,trivial,rfl⟩
    refine looseSteps_cons (fun k a' w' hk0' hk1' hR hG hkp hd => ?_) ?_
    ·have hR0 : Below v12.drew.heap.size v12.drew w':=hR
     have hRb : Below v12.heap.size v12 w':=⟨hR0.os,hR0.tape,hR0.output,hR0.size,hR0.block⟩
     have e1:=hd.1 rfl
     have e1' : a'.tmps.getD 56 undef = _:=e1
     have e1q:=e1'
     rw [Array.getD_eq_getD_getElem?] at e1q
     unfold looseRun
     go_simp
     refine ⟨rfl,(toBridge_any who I ci is F cf fs nx w' w.heap.size (hI.below (k12.trans (hRb.mono k12.size))) (hF.below (k12.trans (hRb.mono k12.size))) (k12.trans (hRb.mono k12.size)).size hil hfl).mono ?_⟩
     rintro e u ⟨I5,c5,F5,d5,m5,rfl,p5,_,h5,q5,b5⟩
     exact ⟨_,rfl,b5,trivial,I5,c5,F5,d5,rfl,OwnE.rd p5,OwnE.rd q5⟩
    refine looseSteps_cons (fun k a' w' hk0' hk1' hR hG hkp hd => ?_) ?_
    ·have hR0 : Below v12.drew.heap.size v12.drew w':=hR
     have hRb : Below v12.heap.size v12 w':=⟨hR0.os,hR0.tape,hR0.output,hR0.size,hR0.block⟩
     have e1:=hd.1 rfl
     obtain ⟨I5,c5,F5,d5,e2,p5,q5⟩:=hd.2.1 rfl
     have e1' : a'.tmps.getD 55 undef = _:=e1
     have e1q:=e1'
     rw [Array.getD_eq_getD_getElem?] at e1q
     have e2' : a'.tmps.getD 57 undef = _:=e2
     have e2q:=e2'
     rw [Array.getD_eq_getD_getElem?] at e2q
     unfold looseRun
     go_simp
     refine ⟨rfl,(eqBridge_self who I2 c2 is F2 d2 fs nx I5 F5 c5 d5 w' w'.heap.size (((OwnE.rd pXI12).below hRb).more hRb.size) (((OwnE.rd pXF12).below hRb).more hRb.size) (Nat.le_refl _) p5 q5 (by omega) (by omega)).mono ?_⟩
     rintro e u ⟨rfl,b5⟩
     exact ⟨_,rfl,b5,trivial,rfl⟩
    exact looseSteps_nil
   ·intro v13 bq
    simp only [List.take_succ_cons,List.take_zero,List.drop_succ_cons,List.drop_zero]
    refine looseAll_cons fun x55 h55 => ?_
    refine looseAll_cons fun x56 h56 => ?_
    refine looseAll_cons fun x57 h57 => ?_
    refine looseAll_cons fun x58 h58 => ?_
    refine looseAll_nil ?_
    have e1 : x58 = .bool true:=h58
    subst e1
    clear h55 h56 h57 h58 a0 a1 a2 a3 a4 y0 y1 y2 y3 y4
    have z13:=bq.size
    have k13:=k12.trans (bq.mono k12.size)
    have zw13:=k13.size
    have oA13:=Own.below oA12 bq
    have pWI13:=Own.below pWI12 bq
    have pWF13:=Own.below pWF12 bq
    have pWS13:=Own.below pWS12 bq
    have oW13:=Own.below oW12 bq
    have pXI13:=Own.below pXI12 bq
    have pXF13:=Own.below pXF12 bq
    have oX13:=Own.below oX12 bq
    have pXS13:=Own.below pXS12 bq
    have pGI13:=Own.below pGI12 bq
    have pGF13:=Own.below pGF12 bq
    have pGS13:=Own.below pGS12 bq
    have oG13:=Own.below oG12 bq
    clear oA12 pWI12 pWF12 pWS12 oW12 pXI12 pXF12 oX12 pXS12 pGI12 pGF12 pGS12 oG12 k12 bq
    simp only [Act.put,List.setIfInBounds_toArray,List.set_cons_zero,List.set_cons_succ]
    go_wp2_with fail
    refine (toStringS_any A ca w.heap.size ls v13 (hA.below k13) k13.size hll).mono ?_
    rintro e v14 ⟨A5,rfl,qS14,bq⟩
    have z14:=bq.size
    have k14:=k13.trans (bq.mono k13.size)
    have zw14:=k14.size
    have oA14:=Own.below oA13 bq
    have pWI14:=Own.below pWI13 bq
    have pWF14:=Own.below pWF13 bq
    have pWS14:=Own.below pWS13 bq
    have oW14:=Own.below oW13 bq
    have pXI14:=Own.below pXI13 bq
    have pXF14:=Own.below pXF13 bq
    have oX14:=Own.below oX13 bq
    have pXS14:=Own.below pXS13 bq
    have pGI14:=Own.below pGI13 bq
    have pGF14:=Own.below pGF13 bq
    have pGS14:=Own.below pGS13 bq
    have oG14:=Own.below oG13 bq
    clear oA13 pWI13 pWF13 pWS13 oW13 pXI13 pXF13 oX13 pXS13 pGI13 pGF13 pGS13 oG13 k13 bq
    have LqS : From v13.heap.size A5:=fun b hb => (Own.lt qS14 hb).1
    have UqS : Upto v14.heap.size A5:=fun b hb => (Own.lt qS14 hb).2
    go_wp2_with fail
    refine (eqStringS_any A2 A5 ls.length ls.length v14.heap.size ls ls v14 (OwnE.rd pXS14) (OwnE.rd qS14) (Nat.le_refl _) (by omega) (by omega)).mono ?_
    rintro e v15 ⟨rfl,bq⟩
    rw [sameB_self]
    have z15:=bq.size
    have k15:=k14.trans (bq.mono k14.size)
    have zw15:=k15.size
    have oA15:=Own.below oA14 bq
    have pWI15:=Own.below pWI14 bq
    have pWF15:=Own.below pWF14 bq
    have pWS15:=Own.below pWS14 bq
    have oW15:=Own.below oW14 bq
    have pXI15:=Own.below pXI14 bq
    have pXF15:=Own.below pXF14 bq
    have oX15:=Own.below oX14 bq
    have pXS15:=Own.below pXS14 bq
    have pGI15:=Own.below pGI14 bq
    have pGF15:=Own.below pGF14 bq
    have pGS15:=Own.below pGS14 bq
    have oG15:=Own.below oG14 bq
    have qS15:=Own.below qS14 bq
    clear oA14 pWI14 pWF14 pWS14 oW14 pXI14 pXF14 oX14 pXS14 pGI14 pGF14 pGS14 oG14 qS14 k14 bq
    clear qS15
    have a0:=(show _ = some (Value.string who.1) from oX15.cell rfl (j:=0) (by omega))
    have a1:=(show _ = some (Value.string who.2) from oX15.cell rfl (j:=1) (by omega))
    have a2:=(show _ = some (Value.slice I2 is.length c2) from oX15.cell rfl (j:=2) (by omega))
    have a3:=(show _ = some (Value.slice F2 fs.length d2) from oX15.cell rfl (j:=3) (by omega))
    have a4:=(show _ = some (Value.int .i64 nx) from oX15.cell rfl (j:=4) (by omega))
    have zlo : v5.heap.size ≤ v15.heap.size:=by omega
    go_wp2_with fail
    refine (markBridge_any who nx v5.heap.size I2 is.length c2 (cE 4 encItem is) F2 fs.length d2 (cE 2 encHandle fs) 1 v15 (Own.rebase pXI15 (fun b hb => Nat.le_trans (by omega) (LpXI b hb))) (Own.rebase pXF15 (fun b hb => Nat.le_trans (by omega) (LpXF b hb))) zlo (by omega) (by omega) (by omega) (by omega)).mono ?_
    rintro e v16 ⟨rfl,_x16,_y16,hfr,bm⟩
    clear a0 a1 a2 a3 a4 zlo
    have z16:=bm.size
    have k16:=k15.trans (bm.mono (by omega))
    have oA16:=Own.keepB oA15 (fun b hb => hfr b (Own.lt oA15 hb).2 ((own_ne oA15 pXI15 (by decide)) b hb) ((own_ne oA15 pXF15 (by decide)) b hb))
    have pWI16:=Own.keepB pWI15 (fun b hb => hfr b (Own.lt pWI15 hb).2 ((ne_of_bounds UpWI LpXI (by omega)) b hb) ((own_ne pWI15 pXF15 (by decide)) b hb))
    have pWF16:=Own.keepB pWF15 (fun b hb => hfr b (Own.lt pWF15 hb).2 ((own_ne pWF15 pXI15 (by decide)) b hb) ((ne_of_bounds UpWF LpXF (by omega)) b hb))
    have pWS16:=Own.keepB pWS15 (fun b hb => hfr b (Own.lt pWS15 hb).2 ((own_ne pWS15 pXI15 (by decide)) b hb) ((own_ne pWS15 pXF15 (by decide)) b hb))
    have oW16:=Own.keepB oW15 (fun b hb => hfr b (Own.lt oW15 hb).2 ((own_ne oW15 pXI15 (by decide)) b hb) ((own_ne oW15 pXF15 (by decide)) b hb))
    have oX16:=Own.keepB oX15 (fun b hb => hfr b (Own.lt oX15 hb).2 ((own_ne oX15 pXI15 (by decide)) b hb) ((own_ne oX15 pXF15 (by decide)) b hb))
    have pXS16:=Own.keepB pXS15 (fun b hb => hfr b (Own.lt pXS15 hb).2 ((own_ne pXS15 pXI15 (by decide)) b hb) ((own_ne pXS15 pXF15 (by decide)) b hb))
    have pGI16:=Own.keepB pGI15 (fun b hb => hfr b (Own.lt pGI15 hb).2 ((ne_of_bounds' LpGI UpXI (by omega)) b hb) ((own_ne pGI15 pXF15 (by decide)) b hb))
    have pGF16:=Own.keepB pGF15 (fun b hb => hfr b (Own.lt pGF15 hb).2 ((own_ne pGF15 pXI15 (by decide)) b hb) ((ne_of_bounds' LpGF UpXF (by omega)) b hb))
    have pGS16:=Own.keepB pGS15 (fun b hb => hfr b (Own.lt pGS15 hb).2 ((own_ne pGS15 pXI15 (by decide)) b hb) ((own_ne pGS15 pXF15 (by decide)) b hb))
    have oG16:=Own.keepB oG15 (fun b hb => hfr b (Own.lt oG15 hb).2 ((own_ne oG15 pXI15 (by decide)) b hb) ((own_ne oG15 pXF15 (by decide)) b hb))
    clear oA15 pWI15 pWF15 pWS15 oW15 pXI15 pXF15 oX15 pXS15 pGI15 pGF15 pGS15 oG15 k15 hfr bm
    clear _x16 _y16
    clear oX16
    have zlo : v5.heap.size ≤ v16.heap.size:=by omega
    go_wp2_with fail
    refine (markStringS_any v5.heap.size A2 ls.length ls.length (cE 1 encStr ls) (1 + (is.length : Int) * 4 + (fs.length : Int) * 2) v16 (Own.rebase pXS16 (fun b hb => Nat.le_trans (by omega) (LpXS b hb))) (by omega) (by omega) (by omega)).mono ?_
    rintro e v17 ⟨rfl,_x17,gm⟩
    have bm : Below v5.heap.size v16 v17:=grown_below gm (fun b hb => Nat.le_trans (by omega) (LpXS b hb)) zlo
    clear zlo
    have z17:=bm.size
    have k17:=k16.trans (bm.mono (by omega))
    have oA17:=Own.kept oA16 gm (kept_of (own_ne oA16 pXS16 (by decide)))
    have pWI17:=Own.kept pWI16 gm (kept_of (own_ne pWI16 pXS16 (by decide)))
    have pWF17:=Own.kept pWF16 gm (kept_of (own_ne pWF16 pXS16 (by decide)))
    have pWS17:=Own.kept pWS16 gm (kept_of (ne_of_bounds UpWS LpXS (by omega)))
    have oW17:=Own.kept oW16 gm (kept_of (own_ne oW16 pXS16 (by decide)))
    have pGI17:=Own.kept pGI16 gm (kept_of (own_ne pGI16 pXS16 (by decide)))
    have pGF17:=Own.kept pGF16 gm (kept_of (own_ne pGF16 pXS16 (by decide)))
    have pGS17:=Own.kept pGS16 gm (kept_of (ne_of_bounds' LpGS UpXS (by omega)))
    have oG17:=Own.kept oG16 gm (kept_of (own_ne oG16 pXS16 (by decide)))
    clear oA16 pWI16 pWF16 pWS16 oW16 pXS16 pGI16 pGF16 pGS16 oG16 k16 gm bm
    clear _x17
    have gm : decide (1 + (is.length : Int) * 4 + (fs.length : Int) * 2 + (ls.length : Int) < 0) = false:=decide_eq_false (by omega)
    have a0:=(show _ = some (Value.string r.1.1.1) from oG17.cell rfl (j:=0) (by omega))
    have a1:=(show _ = some (Value.string r.1.1.2) from oG17.cell rfl (j:=1) (by omega))
    have a2:=(show _ = some (Value.slice Ig r.1.2.1.length ig) from oG17.cell rfl (j:=2) (by omega))
    have a3:=(show _ = some (Value.slice Fg r.1.2.2.1.length fg) from oG17.cell rfl (j:=3) (by omega))
    have a4:=(show _ = some (Value.int .i64 r.1.2.2.2) from oG17.cell rfl (j:=4) (by omega))
    have y0:=(show _ = some (Value.string r.1.1.1) from oW17.cell rfl (j:=0) (by omega))
    have y1:=(show _ = some (Value.string r.1.1.2) from oW17.cell rfl (j:=1) (by omega))
    have y2:=(show _ = some (Value.slice Iw r.1.2.1.length iw) from oW17.cell rfl (j:=2) (by omega))
    have y3:=(show _ = some (Value.slice Fw r.1.2.2.1.length fw) from oW17.cell rfl (j:=3) (by omega))
    have y4:=(show _ = some (Value.int .i64 r.1.2.2.2) from oW17.cell rfl (j:=4) (by omega))
    go_wp2_with fail
    refine (eqBridge_self r.1.1 Ig ig r.1.2.1 Fg fg r.1.2.2.1 r.1.2.2.2 Iw Fw iw fw v17 v17.heap.size (OwnE.rd pGI17) (OwnE.rd pGF17) (Nat.le_refl _) (OwnE.rd pWI17) (OwnE.rd pWF17) (by omega) (by omega)).mono ?_
    rintro e v18 ⟨rfl,bq⟩
    clear a0 a1 a2 a3 a4 y0 y1 y2 y3 y4
    have z18:=bq.size
    have k18:=k17.trans (bq.mono k17.size)
    have zw18:=k18.size
    have oA18:=Own.below oA17 bq
    have pWI18:=Own.below pWI17 bq
    have pWF18:=Own.below pWF17 bq
    have pWS18:=Own.below pWS17 bq
    have oW18:=Own.below oW17 bq
    have pGI18:=Own.below pGI17 bq
    have pGF18:=Own.below pGF17 bq
    have pGS18:=Own.below pGS17 bq
    have oG18:=Own.below oG17 bq
    clear oA17 pWI17 pWF17 pWS17 oW17 pGI17 pGF17 pGS17 oG17 k17 bq
    go_wp2_with fail
    refine (eqStringS_any Sg Sw sg sw v18.heap.size r.2 r.2 v18 (OwnE.rd pGS18) (OwnE.rd pWS18) (Nat.le_refl _) (by omega) (by omega)).mono ?_
    rintro e v19 ⟨rfl,bq⟩
    rw [sameB_self]
    have z19:=bq.size
    have k19:=k18.trans (bq.mono k18.size)
    have zw19:=k19.size
    have oA19:=Own.below oA18 bq
    have pWI19:=Own.below pWI18 bq
    have pWF19:=Own.below pWF18 bq
    have pWS19:=Own.below pWS18 bq
    have oW19:=Own.below oW18 bq
    have pGI19:=Own.below pGI18 bq
    have pGF19:=Own.below pGF18 bq
    have pGS19:=Own.below pGS18 bq
    have oG19:=Own.below oG18 bq
    clear oA18 pWI18 pWF18 pWS18 oW18 pGI18 pGF18 pGS18 oG18 k18 bq
    clear gm
    have a0:=(show _ = some (Value.string r.1.1.1) from oG19.cell rfl (j:=0) (by omega))
    have a1:=(show _ = some (Value.string r.1.1.2) from oG19.cell rfl (j:=1) (by omega))
    have a2:=(show _ = some (Value.slice Ig r.1.2.1.length ig) from oG19.cell rfl (j:=2) (by omega))
    have a3:=(show _ = some (Value.slice Fg r.1.2.2.1.length fg) from oG19.cell rfl (j:=3) (by omega))
    have a4:=(show _ = some (Value.int .i64 r.1.2.2.2) from oG19.cell rfl (j:=4) (by omega))
    have zlo : v8.heap.size ≤ v19.heap.size:=by omega
    go_wp2_with fail
    refine (markBridge_any r.1.1 r.1.2.2.2 v8.heap.size Ig r.1.2.1.length ig (cE 4 encItem r.1.2.1) Fg r.1.2.2.1.length fg (cE 2 encHandle r.1.2.2.1) 1 v19 (Own.rebase pGI19 (fun b hb => Nat.le_trans (by omega) (LpGI b hb))) (Own.rebase pGF19 (fun b hb => Nat.le_trans (by omega) (LpGF b hb))) zlo (by omega) (by omega) (by omega) (by omega)).mono ?_
    rintro e v20 ⟨rfl,mI20,mF20,hfr,bm⟩
    clear a0 a1 a2 a3 a4 zlo
    have z20:=bm.size
    have k20:=k19.trans (bm.mono (by omega))
    have oA20:=Own.keepB oA19 (fun b hb => hfr b (Own.lt oA19 hb).2 ((own_ne oA19 pGI19 (by decide)) b hb) ((own_ne oA19 pGF19 (by decide)) b hb))
    have pWI20:=Own.keepB pWI19 (fun b hb => hfr b (Own.lt pWI19 hb).2 ((ne_of_bounds UpWI LpGI (by omega)) b hb) ((own_ne pWI19 pGF19 (by decide)) b hb))
    have pWF20:=Own.keepB pWF19 (fun b hb => hfr b (Own.lt pWF19 hb).2 ((own_ne pWF19 pGI19 (by decide)) b hb) ((ne_of_bounds UpWF LpGF (by omega)) b hb))
    have pWS20:=Own.keepB pWS19 (fun b hb => hfr b (Own.lt pWS19 hb).2 ((own_ne pWS19 pGI19 (by decide)) b hb) ((own_ne pWS19 pGF19 (by decide)) b hb))
    have oW20:=Own.keepB oW19 (fun b hb => hfr b (Own.lt oW19 hb).2 ((own_ne oW19 pGI19 (by decide)) b hb) ((own_ne oW19 pGF19 (by decide)) b hb))
    have pGS20:=Own.keepB pGS19 (fun b hb => hfr b (Own.lt pGS19 hb).2 ((own_ne pGS19 pGI19 (by decide)) b hb) ((own_ne pGS19 pGF19 (by decide)) b hb))
    have oG20:=Own.keepB oG19 (fun b hb => hfr b (Own.lt oG19 hb).2 ((own_ne oG19 pGI19 (by decide)) b hb) ((own_ne oG19 pGF19 (by decide)) b hb))
    clear oA19 pWI19 pWF19 pWS19 oW19 pGI19 pGF19 pGS19 oG19 k19 hfr bm
    have zlo : v8.heap.size ≤ v20.heap.size:=by omega
    go_wp2_with fail
    refine (markStringS_any v8.heap.size Sg r.2.length sg (cE 1 encStr r.2) (1 + (r.1.2.1.length : Int) * 4 + (r.1.2.2.1.length : Int) * 2) v20 (Own.rebase pGS20 (fun b hb => Nat.le_trans (by omega) (LpGS b hb))) (by omega) (by omega) (by omega)).mono ?_
    rintro e v21 ⟨rfl,mS21,gm⟩
    have bm : Below v8.heap.size v20 v21:=grown_below gm (fun b hb => Nat.le_trans (by omega) (LpGS b hb)) zlo
    clear zlo
    have z21:=bm.size
    have k21:=k20.trans (bm.mono (by omega))
    have oA21:=Own.kept oA20 gm (kept_of (own_ne oA20 pGS20 (by decide)))
    have pWI21:=Own.kept pWI20 gm (kept_of (own_ne pWI20 pGS20 (by decide)))
    have pWF21:=Own.kept pWF20 gm (kept_of (own_ne pWF20 pGS20 (by decide)))
    have pWS21:=Own.kept pWS20 gm (kept_of (ne_of_bounds UpWS LpGS (by omega)))
    have oW21:=Own.kept oW20 gm (kept_of (own_ne oW20 pGS20 (by decide)))
    have oG21:=Own.kept oG20 gm (kept_of (own_ne oG20 pGS20 (by decide)))
    have mI21:=Own.kept mI20 gm (kept_of (own_ne mI20 pGS20 (by decide)))
    have mF21:=Own.kept mF20 gm (kept_of (own_ne mF20 pGS20 (by decide)))
    clear oA20 pWI20 pWF20 pWS20 oW20 pGS20 oG20 mI20 mF20 k20 gm bm
    have gq : decide (1 + (r.1.2.1.length : Int) * 4 + (r.1.2.2.1.length : Int) * 2 < 0) = false:=decide_eq_false (by omega)
    have gq2 : decide (1 + (r.1.2.1.length : Int) * 4 + (r.1.2.2.1.length : Int) * 2 + (r.2.length : Int) < 0) = false:=decide_eq_false (by omega)
    have gn : ((1 + (r.1.2.1.length : Int) * 4 + (r.1.2.2.1.length : Int) * 2 + (r.2.length : Int)) != (1 + (r.1.2.1.length : Int) * 4 + (r.1.2.2.1.length : Int) * 2 + (r.2.length : Int))) = false:=by simp
    have a0:=(show _ = some (Value.string r.1.1.1) from oG21.cell rfl (j:=0) (by omega))
    have a1:=(show _ = some (Value.string r.1.1.2) from oG21.cell rfl (j:=1) (by omega))
    have a2:=(show _ = some (Value.slice Ig r.1.2.1.length ig) from oG21.cell rfl (j:=2) (by omega))
    have a3:=(show _ = some (Value.slice Fg r.1.2.2.1.length fg) from oG21.cell rfl (j:=3) (by omega))
    have a4:=(show _ = some (Value.int .i64 r.1.2.2.2) from oG21.cell rfl (j:=4) (by omega))
    go_wp2_with fail
    refine (heldBridge_any r.1.1 r.1.2.2.2 v21.heap.size Ig r.1.2.1.length ig Fg r.1.2.2.1.length fg 1 v21 (Own.rd mI21) (Own.rd mF21) (Nat.le_refl _) (by omega) (by omega) (by omega) (by omega)).mono ?_
    rintro e v22 ⟨rfl,bq⟩
    clear a0 a1 a2 a3 a4
    have z22:=bq.size
    have k22:=k21.trans (bq.mono k21.size)
    have zw22:=k22.size
    have oA22:=Own.below oA21 bq
    have pWI22:=Own.below pWI21 bq
    have pWF22:=Own.below pWF21 bq
    have pWS22:=Own.below pWS21 bq
    have oW22:=Own.below oW21 bq
    have oG22:=Own.below oG21 bq
    have mI22:=Own.below mI21 bq
    have mF22:=Own.below mF21 bq
    have mS22:=Own.below mS21 bq
    clear oA21 pWI21 pWF21 pWS21 oW21 oG21 mI21 mF21 mS21 k21 bq
    go_wp2_with fail
    refine (heldStringS_any v22.heap.size Sg r.2.length sg (1 + (r.1.2.1.length : Int) * 4 + (r.1.2.2.1.length : Int) * 2) v22 (Own.rd mS22) (Nat.le_refl _) (by omega) (by omega) (by omega)).mono ?_
    rintro e v23 ⟨rfl,bq⟩
    have z23:=bq.size
    have k23:=k22.trans (bq.mono k22.size)
    have zw23:=k23.size
    have oA23:=Own.below oA22 bq
    have pWI23:=Own.below pWI22 bq
    have pWF23:=Own.below pWF22 bq
    have pWS23:=Own.below pWS22 bq
    have oW23:=Own.below oW22 bq
    have oG23:=Own.below oG22 bq
    have mI23:=Own.below mI22 bq
    have mF23:=Own.below mF22 bq
    have mS23:=Own.below mS22 bq
    clear oA22 pWI22 pWF22 pWS22 oW22 oG22 mI22 mF22 mS22 k22 bq
    have a0:=(show _ = some (Value.string who.1) from oA23.cell rfl (j:=0) (by omega))
    have a1:=(show _ = some (Value.string who.2) from oA23.cell rfl (j:=1) (by omega))
    have a2:=(show _ = some (Value.slice I is.length ci) from oA23.cell rfl (j:=2) (by omega))
    have a3:=(show _ = some (Value.slice F fs.length cf) from oA23.cell rfl (j:=3) (by omega))
    have a4:=(show _ = some (Value.int .i64 nx) from oA23.cell rfl (j:=4) (by omega))
    go_wp2_with fail
    refine (toBridge_any who I ci is F cf fs nx v23 w.heap.size (hI.below k23) (hF.below k23) k23.size hil hfl).mono ?_
    rintro e v24 ⟨I3,c3,F3,d3,mm,rfl,qI24,_,hm,qFX,bq⟩
    have qF24:=Own.more qFX hm
    clear a0 a1 a2 a3 a4
    have z24:=bq.size
    have k24:=k23.trans (bq.mono k23.size)
    have zw24:=k24.size
    have oA24:=Own.below oA23 bq
    have pWI24:=Own.below pWI23 bq
    have pWF24:=Own.below pWF23 bq
    have pWS24:=Own.below pWS23 bq
    have oW24:=Own.below oW23 bq
    have oG24:=Own.below oG23 bq
    have mI24:=Own.below mI23 bq
    have mF24:=Own.below mF23 bq
    have mS24:=Own.below mS23 bq
    clear oA23 pWI23 pWF23 pWS23 oW23 oG23 mI23 mF23 mS23 k23 bq
    clear qFX hm
    have LqI : From v23.heap.size I3:=fun b hb => (Own.lt qI24 hb).1
    have UqI : Upto v24.heap.size I3:=fun b hb => (Own.lt qI24 hb).2
    have LqF : From v23.heap.size F3:=fun b hb => (Own.lt qF24 hb).1
    have UqF : Upto v24.heap.size F3:=fun b hb => (Own.lt qF24 hb).2
    go_wp2_with fail
    refine (toStringS_any A ca w.heap.size ls v24 (hA.below k24) k24.size hll).mono ?_
    rintro e v25 ⟨A3,rfl,qS25,bq⟩
    have z25:=bq.size
    have k25:=k24.trans (bq.mono k24.size)
    have zw25:=k25.size
    have oA25:=Own.below oA24 bq
    have pWI25:=Own.below pWI24 bq
    have pWF25:=Own.below pWF24 bq
    have pWS25:=Own.below pWS24 bq
    have oW25:=Own.below oW24 bq
    have oG25:=Own.below oG24 bq
    have mI25:=Own.below mI24 bq
    have mF25:=Own.below mF24 bq
    have mS25:=Own.below mS24 bq
    have qI25:=Own.below qI24 bq
    have qF25:=Own.below qF24 bq
    clear oA24 pWI24 pWF24 pWS24 oW24 oG24 mI24 mF24 mS24 qI24 qF24 k24 bq
    have LqS : From v24.heap.size A3:=fun b hb => (Own.lt qS25 hb).1
    have UqS : Upto v25.heap.size A3:=fun b hb => (Own.lt qS25 hb).2
    go_wp2_with fail
    refine (implBridgeLines_any ls A3 ls.length who is fs nx I3 c3 F3 d3 v25.heap.size v25 (OwnE.rd qS25) (OwnE.rd qI25) (OwnE.rd qF25) (Nat.le_refl _) hll hil hfl (OwnE.capLe qI25) HLZ.out HIZ.out HFZ.out hw0 hw1 (HT.out.below k25 (Nat.le_refl _)) (HE.out.below k25 (Nat.le_refl _))).mono ?_
    rintro e v26 ⟨Ih,ih,Fh,fh,Sh,sh,rfl,pHI26,pHF26,pHS26,bq⟩
    rw [← HR.out] at pHI26 pHF26 pHS26 ⊢
    have z26:=bq.size
    have k26:=k25.trans (bq.mono k25.size)
    have zw26:=k26.size
    have oA26:=Own.below oA25 bq
    have pWI26:=Own.below pWI25 bq
    have pWF26:=Own.below pWF25 bq
    have pWS26:=Own.below pWS25 bq
    have oW26:=Own.below oW25 bq
    have oG26:=Own.below oG25 bq
    have mI26:=Own.below mI25 bq
    have mF26:=Own.below mF25 bq
    have mS26:=Own.below mS25 bq
    have qI26:=Own.below qI25 bq
    have qF26:=Own.below qF25 bq
    have qS26:=Own.below qS25 bq
    clear oA25 pWI25 pWF25 pWS25 oW25 oG25 mI25 mF25 mS25 qI25 qF25 qS25 k25 bq
    have LpHI : From v25.heap.size Ih:=fun b hb => (Own.lt pHI26 hb).1
    have UpHI : Upto v26.heap.size Ih:=fun b hb => (Own.lt pHI26 hb).2
    have LpHF : From v25.heap.size Fh:=fun b hb => (Own.lt pHF26 hb).1
    have UpHF : Upto v26.heap.size Fh:=fun b hb => (Own.lt pHF26 hb).2
    have LpHS : From v25.heap.size Sh:=fun b hb => (Own.lt pHS26 hb).1
    have UpHS : Upto v26.heap.size Sh:=fun b hb => (Own.lt pHS26 hb).2
    clear qI26 qF26 qS26
    have oH27 : Own (v26.alloc (.cells #[Value.string r.1.1.1,Value.string r.1.1.2,Value.slice Ih r.1.2.1.length ih,Value.slice Fh r.1.2.2.1.length fh,Value.int .i64 r.1.2.2.2] 33)) v26.heap.size 33 5 (some ⟨v26.heap.size,0,none⟩) 1 1 (bxC r.1.1 Ih r.1.2.1.length ih Fh r.1.2.2.1.length fh r.1.2.2.2):=Own.lit v26 33 5 1 #[Value.string r.1.1.1,Value.string r.1.1.2,Value.slice Ih r.1.2.1.length ih,Value.slice Fh r.1.2.2.1.length fh,Value.int .i64 r.1.2.2.2] (bxC r.1.1 Ih r.1.2.1.length ih Fh r.1.2.2.1.length fh r.1.2.2.2) (by simp only [maxLen]; omega) rfl
    have bb : Below v26.heap.size v26 (v26.alloc (.cells #[Value.string r.1.1.1,Value.string r.1.1.2,Value.slice Ih r.1.2.1.length ih,Value.slice Fh r.1.2.2.1.length fh,Value.int .i64 r.1.2.2.2] 33)):=(Below.refl _ _).alloc (Nat.le_refl _) _
    have z27:=bb.size
    have k27:=k26.trans (bb.mono k26.size)
    have oA27:=Own.below oA26 bb
    have pWI27:=Own.below pWI26 bb
    have pWF27:=Own.below pWF26 bb
    have pWS27:=Own.below pWS26 bb
    have oW27:=Own.below oW26 bb
    have oG27:=Own.below oG26 bb
    have mI27:=Own.below mI26 bb
    have mF27:=Own.below mF26 bb
    have mS27:=Own.below mS26 bb
    have pHI27:=Own.below pHI26 bb
    have pHF27:=Own.below pHF26 bb
    have pHS27:=Own.below pHS26 bb
    clear oA26 pWI26 pWF26 pWS26 oW26 oG26 mI26 mF26 mS26 pHI26 pHF26 pHS26 k26
    go_upto_region 36 with fail
    clear bb
    generalize (v26.alloc (.cells #[Value.string r.1.1.1,Value.string r.1.1.2,Value.slice Ih r.1.2.1.length ih,Value.slice Fh r.1.2.2.1.length fh,Value.int .i64 r.1.2.2.2] 33)) = v27 at *
    have a0:=(show _ = some (Value.string r.1.1.1) from oH27.cell rfl (j:=0) (by omega))
    have a1:=(show _ = some (Value.string r.1.1.2) from oH27.cell rfl (j:=1) (by omega))
    have a2:=(show _ = some (Value.slice Ih r.1.2.1.length ih) from oH27.cell rfl (j:=2) (by omega))
    have a3:=(show _ = some (Value.slice Fh r.1.2.2.1.length fh) from oH27.cell rfl (j:=3) (by omega))
    have a4:=(show _ = some (Value.int .i64 r.1.2.2.2) from oH27.cell rfl (j:=4) (by omega))
    have y0:=(show _ = some (Value.string r.1.1.1) from oW27.cell rfl (j:=0) (by omega))
    have y1:=(show _ = some (Value.string r.1.1.2) from oW27.cell rfl (j:=1) (by omega))
    have y2:=(show _ = some (Value.slice Iw r.1.2.1.length iw) from oW27.cell rfl (j:=2) (by omega))
    have y3:=(show _ = some (Value.slice Fw r.1.2.2.1.length fw) from oW27.cell rfl (j:=3) (by omega))
    have y4:=(show _ = some (Value.int .i64 r.1.2.2.2) from oW27.cell rfl (j:=4) (by omega))
    go_wp2_with fail
    refine (eqBridge_self r.1.1 Ih ih r.1.2.1 Fh fh r.1.2.2.1 r.1.2.2.2 Iw Fw iw fw v27 v27.heap.size (OwnE.rd pHI27) (OwnE.rd pHF27) (Nat.le_refl _) (OwnE.rd pWI27) (OwnE.rd pWF27) (by omega) (by omega)).mono ?_
    rintro e v28 ⟨rfl,bq⟩
    clear a0 a1 a2 a3 a4 y0 y1 y2 y3 y4
    have z28:=bq.size
    have k28:=k27.trans (bq.mono k27.size)
    have zw28:=k28.size
    have oA28:=Own.below oA27 bq
    have pWI28:=Own.below pWI27 bq
    have pWF28:=Own.below pWF27 bq
    have pWS28:=Own.below pWS27 bq
    have oW28:=Own.below oW27 bq
    have oG28:=Own.below oG27 bq
    have mI28:=Own.below mI27 bq
    have mF28:=Own.below mF27 bq
    have mS28:=Own.below mS27 bq
    have pHI28:=Own.below pHI27 bq
    have pHF28:=Own.below pHF27 bq
    have pHS28:=Own.below pHS27 bq
    have oH28:=Own.below oH27 bq
    clear oA27 pWI27 pWF27 pWS27 oW27 oG27 mI27 mF27 mS27 pHI27 pHF27 pHS27 oH27 k27 bq
    go_wp2_with fail
    refine (eqStringS_any Sh Sw sh sw v28.heap.size r.2 r.2 v28 (OwnE.rd pHS28) (OwnE.rd pWS28) (Nat.le_refl _) (by omega) (by omega)).mono ?_
    rintro e v29 ⟨rfl,bq⟩
    rw [sameB_self]
    have z29:=bq.size
    have k29:=k28.trans (bq.mono k28.size)
    have zw29:=k29.size
    have oA29:=Own.below oA28 bq
    have pWI29:=Own.below pWI28 bq
    have pWF29:=Own.below pWF28 bq
    have pWS29:=Own.below pWS28 bq
    have oW29:=Own.below oW28 bq
    have oG29:=Own.below oG28 bq
    have mI29:=Own.below mI28 bq
    have mF29:=Own.below mF28 bq
    have mS29:=Own.below mS28 bq
    have pHI29:=Own.below pHI28 bq
    have pHF29:=Own.below pHF28 bq
    have pHS29:=Own.below pHS28 bq
    have oH29:=Own.below oH28 bq
    clear oA28 pWI28 pWF28 pWS28 oW28 oG28 mI28 mF28 mS28 pHI28 pHF28 pHS28 oH28 k28 bq
    have a0:=(show _ = some (Value.string r.1.1.1) from oG29.cell rfl (j:=0) (by omega))
    have a1:=(show _ = some (Value.string r.1.1.2) from oG29.cell rfl (j:=1) (by omega))
    have a2:=(show _ = some (Value.slice Ig r.1.2.1.length ig) from oG29.cell rfl (j:=2) (by omega))
    have a3:=(show _ = some (Value.slice Fg r.1.2.2.1.length fg) from oG29.cell rfl (j:=3) (by omega))
    have a4:=(show _ = some (Value.int .i64 r.1.2.2.2) from oG29.cell rfl (j:=4) (by omega))
    go_wp2_with fail
    refine (heldBridge_any r.1.1 r.1.2.2.2 v29.heap.size Ig r.1.2.1.length ig Fg r.1.2.2.1.length fg 1 v29 (Own.rd mI29) (Own.rd mF29) (Nat.le_refl _) (by omega) (by omega) (by omega) (by omega)).mono ?_
    rintro e v30 ⟨rfl,bq⟩
    clear a0 a1 a2 a3 a4
    have z30:=bq.size
    have k30:=k29.trans (bq.mono k29.size)
    have zw30:=k30.size
    have oA30:=Own.below oA29 bq
    have pWI30:=Own.below pWI29 bq
    have pWF30:=Own.below pWF29 bq
    have pWS30:=Own.below pWS29 bq
    have oW30:=Own.below oW29 bq
    have oG30:=Own.below oG29 bq
    have mI30:=Own.below mI29 bq
    have mF30:=Own.below mF29 bq
    have mS30:=Own.below mS29 bq
    have pHI30:=Own.below pHI29 bq
    have pHF30:=Own.below pHF29 bq
    have pHS30:=Own.below pHS29 bq
    have oH30:=Own.below oH29 bq
    clear oA29 pWI29 pWF29 pWS29 oW29 oG29 mI29 mF29 mS29 pHI29 pHF29 pHS29 oH29 k29 bq
    go_wp2_with fail
    refine (heldStringS_any v30.heap.size Sg r.2.length sg (1 + (r.1.2.1.length : Int) * 4 + (r.1.2.2.1.length : Int) * 2) v30 (Own.rd mS30) (Nat.le_refl _) (by omega) (by omega) (by omega)).mono ?_
    rintro e v31 ⟨rfl,bq⟩
    have z31:=bq.size
    have k31:=k30.trans (bq.mono k30.size)
    have zw31:=k31.size
    have oA31:=Own.below oA30 bq
    have pWI31:=Own.below pWI30 bq
    have pWF31:=Own.below pWF30 bq
    have pWS31:=Own.below pWS30 bq
    have oW31:=Own.below oW30 bq
    have oG31:=Own.below oG30 bq
    have mI31:=Own.below mI30 bq
    have mF31:=Own.below mF30 bq
    have mS31:=Own.below mS30 bq
    have pHI31:=Own.below pHI30 bq
    have pHF31:=Own.below pHF30 bq
    have pHS31:=Own.below pHS30 bq
    have oH31:=Own.below oH30 bq
    clear oA30 pWI30 pWF30 pWS30 oW30 oG30 mI30 mF30 mS30 pHI30 pHF30 pHS30 oH30 k30 bq
    go_wp2_with fail
    go_ret
    exact ⟨rfl,k31⟩
  ·have hd2 : decide ((-1 : Int) < 0) = true:=by decide
   rw [szL_no (by omega)] at hss
   have HSS:=Lib.hid hss
   clear hss
   go_enter Tryz.func5,Tryz.ntmps5
   go_wp2_with fail
   generalize (w.alloc (.cells #[Value.string who.1,Value.string who.2,Value.slice I is.length ci,Value.slice F fs.length cf,Value.int .i64 nx] 27)) = wA at *
   refine (HS.out wA (hI.below kA) (hF.below kA) kA.size).mono ?_
   rintro e v0 ⟨rfl,b0⟩
   have k0:=kA.trans (b0.mono kA.size)
   have oA0:=Own.below oA b0
   go_wp2_with fail
   refine (HSS.out v0 (hA.below k0) k0.size).mono ?_
   rintro e v1 ⟨rfl,b1⟩
   go_wp2_with fail
   go_ret
   exact ⟨rfl,k0.trans (b1.mono k0.size)⟩
 ·have hd : decide ((-1 : Int) < 0) = true:=by decide
  rw [szL_no (by omega)] at hsz
  have HS:=Lib.hid hsz
  clear hsz
  go_enter Tryz.func5,Tryz.ntmps5
  go_wp2_with fail
  generalize (w.alloc (.cells #[Value.string who.1,Value.string who.2,Value.slice I is.length ci,Value.slice F fs.length cf,Value.int .i64 nx] 27)) = wA at *
  refine (HS.out wA (hI.below kA) (hF.below kA) kA.size).mono ?_
  rintro e v0 ⟨rfl,b0⟩
  have k0:=kA.trans (b0.mono kA.size)
  have oA0:=Own.below oA b0
  go_wp2_with fail
  go_ret
  exact ⟨rfl,k0⟩
end Go.Proofs.YtfnmlffpnmmcdaaGreatDoor
namespace Go.Proofs.YtfnmlffpnmmcdaaGreatDoor
set_option maxRecDepth 100000
open Go.ChangeShapes Go.WideShapes Go.ChangeAt Go.RowKit
open Go.ChangeMaps (open_string shut_string)
set_option maxRecDepth 100000 in
theorem FnExactBridgeLines_lifted (os : Os) (started : os.Started) (H : Type) (enc : TypeId × Value → H) :
    ReturnsInHanded {} Tryz.checked os 5 .any (fun w args => (Rows.fnExactBridgeLinesSpec.pre enc Tryz.prog Tryz.f5 [] false w args ∧ laidMetH Tryz.prog Rows.fnExactBridgeLinesRow.laid w) ∧ sizedMet enc Tryz.prog Tryz.f5 (OpenSpec.ofChange Rows.fnExactBridgeLinesSpec) false w args) (Rows.fnExactBridgeLinesSpec.post enc Tryz.prog Tryz.f5 false true false false):=by
 refine returnsInHanded_of_change_and (C:=Tryz.checked) (X:=fun w _ => laidMetH Tryz.prog Rows.fnExactBridgeLinesRow.laid w) (fun _ _ _ hh h => h.of_heap hh) own started (by kernel_rfl) Tryz.func5
  (ChangeSpec.witness_shaped (enc:=enc) (C:=Tryz.checked) (os:=os) (X:=fun w _ => laidMetH Tryz.prog Rows.fnExactBridgeLinesRow.laid w) false (World.doorLaid Tryz.prog 400 os) #[.agg #[.string ByteArray.empty,.string ByteArray.empty,.slice none 0 0,.slice none 0 0,.int .i64 0],.slice none 0 0] 8 rfl (World.shaped_of_RefB (by kernel_rfl) (by kernel_rfl)) (by kernel_rfl) (by kernel_rfl) (by kernel_rfl) (door_met os _)) ?_
 intro W base args ds gs before hval0 hW _ _ hL _
 have hval : ∀ (j : Nat) t v,Tryz.f5.params[j]? = some t → args[j]? = some v → Value.okWide Tryz.prog W .any base t v:=hval0
 have hW':=hW
 obtain ⟨p,q,hA0,hV,rfl,hfz,hnd⟩:=hW
 have hA : DataW.TrodAll enc Tryz.prog W 0 (fun _ => true) true Tryz.f5.params.toList args.toList ds p:=hA0
 rw [Tryz.params5] at hA hval
 obtain ⟨v0,vs0,d0,ds0,p0,q0,hargs,rfl,rfl,h0,r0⟩:=trodAll_cons hA
 obtain ⟨v1,vs1,d1,ds1,p1,q1,rfl,rfl,rfl,h1,r1⟩:=trodAll_cons r0
 obtain ⟨rfl,rfl,rfl⟩:=trodAll_nil r1
 obtain rfl : args = #[v0,v1]:=by cases args; simp_all
 have hV2 : DataW.TrodVars enc Tryz.prog W (fun _ => true) ["loop.example/feedbridge/impl.escapes","loop.example/feedbridge/impl.kindWords"] gs q:=hV
 obtain ⟨_,_,_,_,z0,_,_,_,_,_,z1,_,rfl,_⟩:=trodVars_two hV2
 have k0:=h0
 have lt0 : ∀ x ∈ p0,x.block < W.heap.size:=by obtain ⟨m,hm⟩:=k0; exact DataW.trod_lt m _ _ _ hm
 obtain ⟨who,I,ci,is,F,cf,fs,nx,rfl,ow,⟨rI,lI,mI,wI⟩,⟨rF,lF,mF,wF⟩,_⟩:=open_Bridge (hval 0 27 v0 rfl rfl) h0
 have k1:=h1
 have lt1 : ∀ x ∈ p1,x.block < W.heap.size:=by obtain ⟨m,hm⟩:=k1; exact DataW.trod_lt m _ _ _ hm
 obtain ⟨A1,cap1,xs1,rfl,rd1,lc1,cm1,wf1⟩:=open_StrS (hval 1 51 v1 rfl rfl) h1
 clear hA0 hval0
 refine (FnExactBridgeLines_walk who I ci is F cf fs nx A1 cap1 xs1 W ow rI rF lI mI wI lF mF wF rd1 lc1 cm1 wf1 (tabs_of_laid hL).1 (tabs_of_laid hL).2).mono fun e W' ⟨he,bel⟩ => ?_
 subst he
 exact ⟨_,rfl,_,_,_,[],_,q,hW',trodAll_mk1 (shut_bool Tryz.underlying4 _),trodAll_cons_mk (Below.trod laidOut (by kernel_rfl) (of_decide_eq_true (by kernel_rfl)) k0 bel lt0) (trodAll_cons_mk (Below.trod laidOut (by kernel_rfl) (of_decide_eq_true (by kernel_rfl)) k1 bel lt1) trodAll_mk0),Below.trodVars laidOut bel (by kernel_rfl) hV2,bel.frame _,fun h => by cases h⟩
theorem FnExactBridgeLines_row : Rows.FnExactBridgeLinesSaid :=
 OpenClaim.holds_of_wide 5 Tryz.f5 rfl rfl rfl rfl rfl rfl rfl ⟨rfl,rfl,rfl,rfl,rfl⟩ rfl rfl rfl rfl rfl (by kernel_rfl) Tryz.func5 (by kernel_rfl)
  (of_decide_eq_true (by kernel_rfl)) (by unfold Func.isWrapper; first | (rw [if_pos (by decide +kernel)]; kernel_rfl) | (rw [if_neg (by decide +kernel)]; exact ⟨rfl,rfl⟩))
  (fun os started H enc _ => FnExactBridgeLines_lifted os started H enc)
theorem FnExactBridgeLines_holds : Rows.FnExactBridgeLinesCardSaid :=
 Claim7.holds_tied_plain_at .later [] [.data,.data] true _ false
  FnExactBridgeLines_row (fun _ h => by cases h) (by kernel_rfl) (fun _ h => by cases h) fnExactBridgeLines_row_tie rfl ⟨rfl,rfl⟩ (by kernel_rfl) rfl
  (fun f fn hf hfn => by
   obtain rfl : f = 5:=Option.some.inj ((show Tryz.prog.funcNamed "loop.example/feedbridge/laws.FnExactBridgeLines" = some 5 by kernel_rfl).symm.trans hf) |>.symm
   obtain rfl : fn = Tryz.f5:=(Option.some.inj (Tryz.func5.symm.trans hfn)).symm
   exact ⟨by kernel_rfl,fun j t ht => by
    rw [Tryz.params5] at ht
    have hm : t ∈ [27,51]:=by simpa using Array.mem_of_getElem? ht
    have hall : ([27,51].all fun u => !Tryz.prog.wantsStandIn u) = true:=by kernel_rfl
    exact (show Tryz.prog.wantsStandIn t = false by simpa using List.all_eq_true.1 hall t hm)⟩)
  (by kernel_rfl)
#print axioms FnExactBridgeLines_holds
end Go.Proofs.YtfnmlffpnmmcdaaGreatDoor
