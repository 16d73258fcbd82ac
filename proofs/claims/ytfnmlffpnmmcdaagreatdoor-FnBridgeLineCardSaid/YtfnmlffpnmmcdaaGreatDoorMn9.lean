/- Parts of the proof, merged: BlD. -/
import Derived.Test.YtfnmlffpnmmcdaaGreatDoorMn7
import Derived.Test.YtfnmlffpnmmcdaaGreatDoorMn8
import Derived.Deep.CutBlock
import Derived.Deep.CutRange
import Derived.Deep.DeepCutAuto
namespace Go.Proofs.YtfnmlffpnmmcdaaGreatDoor
set_option maxRecDepth 100000
open Go.RowKit
theorem loose_run {P : Program} {R : World → World → Prop} {G : Nat → World → Prop} {k : Nat} {sp : Spec} {o : Oper} {a : Act} {w w1 : World} (s x : Operand) (t : TypeId) (ho : o.op = .call { callee:=.builtin .append,args:=#[s,x],argTypes:=#[t,t] }) (v1 v2 v : Value) (hs : a.eval s = v1) (hx : a.eval x = v2) (hrun : (Builtin.append_ #[t,t] o.type #[v1,v2]).run P w = .ok v w1) (h1 : R w w1) (h2 : G k w1) (h3 : sp v w1) : looseRun P R G k sp o a w:=by
 unfold looseRun execOp
 simp only [ho,resolve,invoke,builtin,Sem.run_bind,Sem.run_pure,Result.andThen_ok,List.map_toArray,List.map_cons,List.map_nil,hs,hx,hrun]
 exact ⟨h1,h2,h3⟩
def isG (x : Value) (n : Nat) : Spec:=fun v w => v = x ∧ n < w.heap.size
def casc (b : ElBr) (wd rs : ByteArray) : ElBr × ByteArray :=
 if wd = wItem then putOf b rs else if wd = wGone then takeOf b rs else if wd = wFollow then folwOf b rs else if wd = wLeave then leavOf b rs else (b,wNo)
theorem lnR_none {s : ByteArray} (h : ¬ fb s 32 0 < s.size) : lnR s = { data:=#[] }:=by
 have:=fb_le (c:=32) (Nat.zero_le s.size)
 apply ByteArray.ext
 have hz : (lnR s).size = 0:=by unfold lnR; rw [ByteArray.size_extract]; omega
 exact Array.eq_empty_of_size_eq_zero hz
theorem rhOk_nil : rhOk { data:=#[] } = false:=rhOk_no1 (by decide)
theorem riOk_nil : riOk { data:=#[] } = false:=by
 cases h : riOk { data:=#[] }
 ·rfl
 ·have hv:=riOf_valid h
  have hw : wordB (riOf { data:=#[] }).1 = true:=by unfold ivB at hv; simp only [Bool.and_eq_true] at hv; exact hv.1
  have hne:=(Word.of hw).1
  unfold riOk at h
  simp only [Bool.and_eq_true,decide_eq_true_eq] at h
  have h0:=h.1.2.1 0 (by omega)
  have hel : elOf { data:=#[] } = []:=by decide
  rw [hel] at h0
  exact absurd h0 (by decide)
theorem mf_len (bs ns : List ElItem) : 0 < (mfOf bs ns).length → bs.length ≤ (mfOf bs ns).length:=by
 unfold mfOf
 split
 ·intro _
  unfold mfL
  rw [List.length_append,List.length_map]
  omega
 ·intro h; simp at h
theorem hasK_nil {is : List ElItem} (h : fdB is = true) : hasK is { data:=#[] } = false:=hasK_no fun j hj => by
 have h1:=fd_iv h hj
 unfold ivB at h1
 simp only [Bool.and_eq_true] at h1
 have h2:=(Word.of h1.1).1
 cases hq : isI { data:=#[] } (gt is j)
 ·rfl
 ·have e:=seq_true.1 hq
  rw [e] at h2
  exact absurd h2 (by decide)
theorem blOf_casc {b : ElBr} (h : brvB b = true) (line : ByteArray) : blOf b line = if line = wFans then (b,ftOf b.2.2.1) else casc b (lnW line) (lnR line):=by
 unfold blOf casc
 split
 ·rfl
 ·by_cases hs : fb line 32 0 < line.size
  ·rw [if_pos hs]
  ·rw [if_neg hs,lnR_none hs]
   unfold putOf takeOf folwOf leavOf
   rw [riOk_nil,rhOk_nil,hasK_nil (brv_of h).2.1]
   simp
set_option maxHeartbeats 12800000 in
theorem specBridgeLine_any (line : ByteArray) (who : ElHandle) (is : List ElItem) (fs : List ElHandle) (nx : Int) (I : Option Addr) (ci : Nat) (F : Option Addr) (cf B : Nat) (w : World) (hI : RdE 4 encItem w B I is) (hF : RdE 2 encHandle w B F fs) (hB : B ≤ w.heap.size) (hl : is.length ≤ 1048576) (hlf : fs.length ≤ 1048576) (_hci : is.length ≤ ci) (hiz : ∀ k,k < is.length → (gt is k).1.size ≤ maxLen ∧ (gt is k).2.1.size ≤ maxLen ∧ (gt is k).2.2.1.size ≤ maxLen) (hfz : ∀ k,k < fs.length → (gt fs k).1.size ≤ maxLen ∧ (gt fs k).2.size ≤ maxLen) (hw0 : who.1.size ≤ maxLen) (hw1 : who.2.size ≤ maxLen) (hs : line.size ≤ maxLen) (hSF : Shp F fs.length cf) :
    Calls Tryz.prog 8 #[.agg #[Value.string who.1,Value.string who.2,Value.slice I is.length ci,Value.slice F fs.length cf,Value.int .i64 nx],.string line] w (OutBl w.heap.size (blR (who,is,fs,nx) line) w):=by
 have zw : (w.alloc (.cells #[Value.string who.1,Value.string who.2,Value.slice I is.length ci,Value.slice F fs.length cf,Value.int .i64 nx] 33)).heap.size = w.heap.size + 1:=by simp
 have hbA : Below w.heap.size w ((w.alloc (.cells #[Value.string who.1,Value.string who.2,Value.slice I is.length ci,Value.slice F fs.length cf,Value.int .i64 nx] 33)).alloc (.cells #[Value.string { data:=#[] },Value.string { data:=#[] },Value.slice none 0 0,Value.slice none 0 0,Value.int .i64 0] 33)):=((Below.refl _ _).alloc (Nat.le_refl _) _).alloc (by simp) _
 have zA : ((w.alloc (.cells #[Value.string who.1,Value.string who.2,Value.slice I is.length ci,Value.slice F fs.length cf,Value.int .i64 nx] 33)).alloc (.cells #[Value.string { data:=#[] },Value.string { data:=#[] },Value.slice none 0 0,Value.slice none 0 0,Value.int .i64 0] 33)).heap.size = w.heap.size + 2:=by simp
 have oB : Own ((w.alloc (.cells #[Value.string who.1,Value.string who.2,Value.slice I is.length ci,Value.slice F fs.length cf,Value.int .i64 nx] 33)).alloc (.cells #[Value.string { data:=#[] },Value.string { data:=#[] },Value.slice none 0 0,Value.slice none 0 0,Value.int .i64 0] 33)) w.heap.size 33 5 (some ⟨w.heap.size,0,none⟩) 1 1 (bxC who I is.length ci F fs.length cf nx):=Own.below (Own.lit w 33 5 1 #[Value.string who.1,Value.string who.2,Value.slice I is.length ci,Value.slice F fs.length cf,Value.int .i64 nx] (bxC who I is.length ci F fs.length cf nx) (by simp only [maxLen]; omega) rfl) ((Below.refl _ _).alloc (Nat.le_refl _) _)
 have oR : Own ((w.alloc (.cells #[Value.string who.1,Value.string who.2,Value.slice I is.length ci,Value.slice F fs.length cf,Value.int .i64 nx] 33)).alloc (.cells #[Value.string { data:=#[] },Value.string { data:=#[] },Value.slice none 0 0,Value.slice none 0 0,Value.int .i64 0] 33)) (w.heap.size + 1) 33 5 (some ⟨w.heap.size + 1,0,none⟩) 1 1 zBr':=by
  have:=Own.lit (w.alloc (.cells #[Value.string who.1,Value.string who.2,Value.slice I is.length ci,Value.slice F fs.length cf,Value.int .i64 nx] 33)) 33 5 1 #[Value.string { data:=#[] },Value.string { data:=#[] },Value.slice none 0 0,Value.slice none 0 0,Value.int .i64 0] zBr' (by simp only [maxLen]; omega) rfl
  rw [zw] at this
  exact this
 clear zw
 have HIZ:=Lib.hid hiz
 have HFZ:=Lib.hid hfz
 clear hiz hfz
 have a0:=(show _ = some (Value.string who.1) from oB.cell rfl (j:=0) (by omega))
 have a1:=(show _ = some (Value.string who.2) from oB.cell rfl (j:=1) (by omega))
 have a2:=(show _ = some (Value.slice I is.length ci) from oB.cell rfl (j:=2) (by omega))
 have a3:=(show _ = some (Value.slice F fs.length cf) from oB.cell rfl (j:=3) (by omega))
 have a4:=(show _ = some (Value.int .i64 nx) from oB.cell rfl (j:=4) (by omega))
 go_enter Tryz.func8,Tryz.ntmps8
 go_wp2_with fail
 generalize ((w.alloc (.cells #[Value.string who.1,Value.string who.2,Value.slice I is.length ci,Value.slice F fs.length cf,Value.int .i64 nx] 33)).alloc (.cells #[Value.string { data:=#[] },Value.string { data:=#[] },Value.slice none 0 0,Value.slice none 0 0,Value.int .i64 0] 33)) = wA at *
 refine (specBridgeValid_any who I ci is F cf fs nx wA B (hI.below (hbA.mono hB)) (hF.below (hbA.mono hB)) (Nat.le_trans hB hbA.size) (by omega) (by omega) HIZ.out HFZ.out hw0 hw1).mono ?_
 rintro e w1 ⟨rfl,b1⟩
 have k1:=hbA.trans (b1.mono hbA.size)
 have oB1:=Own.below oB b1
 have oR1:=Own.below oR b1
 have z1 : w.heap.size + 1 < w1.heap.size:=by have:=b1.size; omega
 clear a0 a1 a2 a3 a4
 cases hv : brB who is fs nx
 ·have HQ : Hid (blR (who,is,fs,nx) line = ((({ data:=#[] },{ data:=#[] }),[],[],0),{ data:=#[] })):=Lib.hid (if_neg (by show ¬ brB who is fs nx = true; rw [hv]; simp))
  clear hv
  have r0:=(show _ = some (Value.string { data:=#[] }) from oR1.cell rfl (j:=0) (by omega))
  have rf0:=oR1.frozen rfl 0
  have r1:=(show _ = some (Value.string { data:=#[] }) from oR1.cell rfl (j:=1) (by omega))
  have rf1:=oR1.frozen rfl 1
  have r2:=(show _ = some (Value.slice none 0 0) from oR1.cell rfl (j:=2) (by omega))
  have rf2:=oR1.frozen rfl 2
  have r3:=(show _ = some (Value.slice none 0 0) from oR1.cell rfl (j:=3) (by omega))
  have rf3:=oR1.frozen rfl 3
  have r4:=(show _ = some (Value.int .i64 0) from oR1.cell rfl (j:=4) (by omega))
  have rf4:=oR1.frozen rfl 4
  go_wp2_with fail
  refine bodyPost_ret (v:=.tuple #[.agg #[Value.string { data:=#[] },Value.string { data:=#[] },Value.slice none 0 0,Value.slice none 0 0,Value.int .i64 0],.string { data:=#[] }]) ?_ rfl ?_
  ·simp [results,Tryz.results8,go_sem,r0,r1,r2,r3,r4]
  ·rw [HQ.out]
   exact ⟨none,0,none,0,rfl,Own.nil _ _ _ _ _,Own.nil _ _ _ _ _,(by first | exact k1 | exact (((((k1.setCell (p:=⟨w.heap.size + 1,0,none⟩) (by show w.heap.size ≤ w.heap.size + 1; omega) (Value.string { data:=#[] })).setCell (p:=⟨w.heap.size + 1,1,none⟩) (by show w.heap.size ≤ w.heap.size + 1; omega) (Value.string { data:=#[] })).setCell (p:=⟨w.heap.size + 1,2,none⟩) (by show w.heap.size ≤ w.heap.size + 1; omega) (Value.slice none 0 0)).setCell (p:=⟨w.heap.size + 1,3,none⟩) (by show w.heap.size ≤ w.heap.size + 1; omega) (Value.slice none 0 0)).setCell (p:=⟨w.heap.size + 1,4,none⟩) (by show w.heap.size ≤ w.heap.size + 1; omega) (Value.int .i64 0)))⟩
 ·have HBV:=Lib.hid hv
  have HBL : Hid (blR (who,is,fs,nx) line = if line = wFans then ((who,is,fs,nx),ftOf fs) else casc (who,is,fs,nx) (lnW line) (lnR line)):=Lib.hid ((if_pos hv).trans (blOf_casc (b:=(who,is,fs,nx)) hv line))
  obtain ⟨hwv,hi,hf,hn⟩:=brB_of hv
  have hi8:=fd_len hi
  have hf10:=(Fv.of hf).1
  have HW:=Lib.hid hwv
  have HIV:=Lib.hid hi
  have HFV:=Lib.hid hf
  have HN:=Lib.hid hn
  obtain ⟨n0,n1⟩:=inB_of hn
  clear hv hwv hi hf hn
  have a0:=(show _ = some (Value.string who.1) from oB1.cell rfl (j:=0) (by omega))
  have a1:=(show _ = some (Value.string who.2) from oB1.cell rfl (j:=1) (by omega))
  have a2:=(show _ = some (Value.slice I is.length ci) from oB1.cell rfl (j:=2) (by omega))
  have a3:=(show _ = some (Value.slice F fs.length cf) from oB1.cell rfl (j:=3) (by omega))
  have a4:=(show _ = some (Value.int .i64 nx) from oB1.cell rfl (j:=4) (by omega))
  go_wp2_with fail
  refine (l34Copy_any who I ci is F cf fs nx w1 B (hI.below (k1.mono hB)) (hF.below (k1.mono hB)) (Nat.le_trans hB k1.size) (by omega) (by omega)).mono ?_
  rintro e w2 ⟨Is,cis,Fs,cfs,rfl,o1,o2,b2⟩
  have k2:=k1.trans (b2.mono k1.size)
  clear a0 a1 a2 a3 a4
  have b23 : Below w2.heap.size w2 (w2.alloc (.cells #[Value.string who.1,Value.string who.2,Value.slice Is is.length cis,Value.slice Fs fs.length cfs,Value.int .i64 nx] 33)):=(Below.refl _ _).alloc (Nat.le_refl _) _
  have oS3 : Own (w2.alloc (.cells #[Value.string who.1,Value.string who.2,Value.slice Is is.length cis,Value.slice Fs fs.length cfs,Value.int .i64 nx] 33)) w2.heap.size 33 5 (some ⟨w2.heap.size,0,none⟩) 1 1 (bxC who Is is.length cis Fs fs.length cfs nx):=Own.lit w2 33 5 1 #[Value.string who.1,Value.string who.2,Value.slice Is is.length cis,Value.slice Fs fs.length cfs,Value.int .i64 nx] (bxC who Is is.length cis Fs fs.length cfs nx) (by simp only [maxLen]; omega) rfl
  have k3:=k2.trans (b23.mono k2.size)
  have z12:=b2.size
  have oB3:=Own.below (Own.below oB1 b2) b23
  have oR3:=Own.below (Own.below oR1 b2) b23
  have pI3:=Own.below o1 b23
  have pF3:=Own.below o2 b23
  have hL1:=Lib.hid (show (∀ b,blk Is = some b → b < w2.heap.size) ∧ (∀ b,blk Fs = some b → b < w2.heap.size) from ⟨fun b hb => (Own.lt o1 hb).2,fun b hb => (Own.lt o2 hb).2⟩)
  have z23:=b23.size
  go_upto_region 4 with fail
  clear oB1 oR1 o1 o2 b2
  generalize (w2.alloc (.cells #[Value.string who.1,Value.string who.2,Value.slice Is is.length cis,Value.slice Fs fs.length cfs,Value.int .i64 nx] 33)) = w3 at *
  have a0:=(show _ = some (Value.string who.1) from oB3.cell rfl (j:=0) (by omega))
  have a1:=(show _ = some (Value.string who.2) from oB3.cell rfl (j:=1) (by omega))
  have a2:=(show _ = some (Value.slice I is.length ci) from oB3.cell rfl (j:=2) (by omega))
  have a3:=(show _ = some (Value.slice F fs.length cf) from oB3.cell rfl (j:=3) (by omega))
  have a4:=(show _ = some (Value.int .i64 nx) from oB3.cell rfl (j:=4) (by omega))
  go_wp2_with fail
  refine (l34Copy_any who I ci is F cf fs nx w3 B (hI.below (k3.mono hB)) (hF.below (k3.mono hB)) (Nat.le_trans hB k3.size) (by omega) (by omega)).mono ?_
  rintro e w4 ⟨Io,cio,Fo,cfo,rfl,o1,o2,b4⟩
  have k4:=k3.trans (b4.mono k3.size)
  clear a0 a1 a2 a3 a4
  have b45 : Below w4.heap.size w4 (w4.alloc (.cells #[Value.string who.1,Value.string who.2,Value.slice Io is.length cio,Value.slice Fo fs.length cfo,Value.int .i64 nx] 33)):=(Below.refl _ _).alloc (Nat.le_refl _) _
  have oO5 : Own (w4.alloc (.cells #[Value.string who.1,Value.string who.2,Value.slice Io is.length cio,Value.slice Fo fs.length cfo,Value.int .i64 nx] 33)) w4.heap.size 33 5 (some ⟨w4.heap.size,0,none⟩) 1 1 (bxC who Io is.length cio Fo fs.length cfo nx):=Own.lit w4 33 5 1 #[Value.string who.1,Value.string who.2,Value.slice Io is.length cio,Value.slice Fo fs.length cfo,Value.int .i64 nx] (bxC who Io is.length cio Fo fs.length cfo nx) (by simp only [maxLen]; omega) rfl
  have k5:=k4.trans (b45.mono k4.size)
  have z34:=b4.size
  have oB5:=Own.below (Own.below oB3 b4) b45
  have oR5:=Own.below (Own.below oR3 b4) b45
  have oS5:=Own.below (Own.below oS3 b4) b45
  have pI5:=Own.below (Own.below pI3 b4) b45
  have pF5:=Own.below (Own.below pF3 b4) b45
  have jI5:=Own.below o1 b45
  have jF5:=Own.below o2 b45
  have hLT:=Lib.hid (show (∀ b,blk Is = some b → b < w2.heap.size) ∧ (∀ b,blk Fs = some b → b < w2.heap.size) ∧ (∀ b,blk Fo = some b → b < w4.heap.size) from ⟨hL1.out.1,hL1.out.2,fun b hb => (Own.lt o2 hb).2⟩)
  have z45:=b45.size
  have zS:=(oS3.lt (b:=w2.heap.size) rfl).2
  have zO:=(oO5.lt (b:=w4.heap.size) rfl).2
  go_upto_block 0 with fail
  clear oB3 oR3 oS3 pI3 pF3 o1 o2 b4 b23 b45
  generalize (w4.alloc (.cells #[Value.string who.1,Value.string who.2,Value.slice Io is.length cio,Value.slice Fo fs.length cfo,Value.int .i64 nx] 33)) = w5 at *
  have hbb:=bb_eq line
  unfold maxLen at hs
  go_cut [8] (fun v wx => v = .int .i64 ((fb line 32 0 : Nat) : Int) ∧ wx = w5)
  case first =>
   go_wp2_with fail
   go_loop [8] (fun i => ∃ k : Nat,k ≤ line.size ∧ Hid (fb line 32 0 = fb line 32 k) ∧ i = .int .i64 k) (fun i => line.size - (intOf i).toNat)
   case atStart => exact ⟨0,Nat.zero_le _,Lib.hid rfl,rfl⟩
   case round =>
    obtain ⟨k,kz,kK,rfl⟩:=hrel
    have k0 : (0 : Int) ≤ (k : Int):=by omega
    by_cases kl : k < line.size
    ·by_cases kc : bb line k = 32
     ·have nb : (bb line k != 32) = false:=by simp [kc]
      have hN:=Lib.hid (kK.out.trans (fb_here kl kc))
      clear kK
      go_wp2_with fail
      go_meet
      exact ⟨by rw [hN.out],rfl⟩
     ·have kb : (bb line k != 32) = true:=by simp [kc]
      have kN:=Lib.hid (kK.out.trans (fb_step kl kc))
      go_wp2_with fail
      go_round
      case rel => exact ⟨k + 1,by omega,kN,by go_num⟩
      case measure => first | (simp [intOf]; done) | (simp [intOf]; omega)
    ·obtain rfl : k = line.size:=by omega
     have hN:=Lib.hid (kK.out.trans (fb_out (Nat.le_refl _)))
     clear kK
     go_wp2_with fail
     go_meet
     exact ⟨by rw [hN.out],rfl⟩
  case rest =>
   obtain ⟨rfl,rfl⟩:=hcut
   have hfl:=fb_le (c:=32) (Nat.zero_le line.size)
   have HR1:=Lib.hid (show lnR line = line.extract (fb line 32 0 + 1) line.size from rfl)
   have HW1:=Lib.hid (show lnW line = line.extract 0 (fb line 32 0) from rfl)
   have HR2:=Lib.hid (lnR_none (s:=line))
   generalize fb line 32 0 = a at *
   have a0 : (0 : Int) ≤ (a : Int):=by omega
   have a1 : (a : Int) ≤ (line.size : Int):=by omega
   have a2 : ((a : Int)).toNat = a:=by omega
   go_upto_if 45 with fail
   go_cut [9] (fun v wx => v = .string (lnR line) ∧ wx = wc)
   case first =>
    by_cases hlt : a < line.size
    ·have e1 : (0 : Int) ≤ (a : Int) + 1:=by omega
     have e2 : (a : Int) + 1 ≤ (line.size : Int):=by omega
     have e3 : ((a : Int) + 1).toNat = a + 1:=by omega
     go_wp2_with fail
     go_meet
     exact ⟨by rw [HR1.out],rfl⟩
    ·have he:=Lib.hid (HR2.out hlt)
     go_wp2_with fail
     go_meet
     exact ⟨by rw [he.out],rfl⟩
   case rest =>
    obtain ⟨rfl,rfl⟩:=hcut
    have hrz:=lnR_size line
    have hrz2 : (lnR line).size = line.size - (a + 1):=by rw [HR1.out,ByteArray.size_extract]; omega
    clear HR1 HR2
    generalize lnR line = rs at *
    go_wp2_with fail
    refine (specReadHandle_any rs wc (by unfold maxLen; omega)).mono ?_
    rintro e w6 ⟨rfl,b6⟩
    have b67 : Below w6.heap.size w6 (w6.alloc (.cells #[Value.string (rhOf rs).1,Value.string (rhOf rs).2] 29)):=(Below.refl _ _).alloc (Nat.le_refl _) _
    have oH7 : Own (w6.alloc (.cells #[Value.string (rhOf rs).1,Value.string (rhOf rs).2] 29)) w6.heap.size 29 2 (some ⟨w6.heap.size,0,none⟩) 1 1 (encHandle (rhOf rs)):=Own.lit w6 29 2 1 #[Value.string (rhOf rs).1,Value.string (rhOf rs).2] (encHandle (rhOf rs)) (by simp only [maxLen]; omega) rfl
    have b57:=b6.trans (b67.mono b6.size)
    have k7:=k5.trans (b57.mono k5.size)
    have oB7:=Own.below oB5 b57
    have oR7:=Own.below oR5 b57
    have oS7:=Own.below oS5 b57
    have oO7:=Own.below oO5 b57
    have pI7:=Own.below pI5 b57
    have pF7:=Own.below pF5 b57
    have jI7:=Own.below jI5 b57
    have jF7:=Own.below jF5 b57
    have z57:=b57.size
    have zH:=(oH7.lt (b:=w6.heap.size) rfl).2
    have z6:=b6.size
    go_upto_region 13 with fail
    generalize (w6.alloc (.cells #[Value.string (rhOf rs).1,Value.string (rhOf rs).2] 29)) = w7 at *
    clear oB5 oR5 oS5 oO5 pI5 pF5 jI5 jF5 b6 b67 b57 _hci
    have zz1:=k1.size
    have zk4:=k4.size
    have hNI : ∀ b,blk Is = some b → b ≠ w.heap.size + 1:=fun b hb => by have:=(Own.lt pI7 hb).1; omega
    have hNF : ∀ b,blk Fs = some b → b ≠ w.heap.size + 1:=fun b hb => by have:=(Own.lt pF7 hb).1; omega
    have hNJ : ∀ b,blk Fo = some b → b ≠ w.heap.size + 1:=fun b hb => by have:=(Own.lt jF7 hb).1; omega
    have hNK : ∀ b,blk Io = some b → b ≠ w.heap.size + 1:=fun b hb => by have:=(Own.lt jI7 hb).1; omega
    have hB7 : B ≤ w7.heap.size:=Nat.le_trans hB k7.size
    have HLT:=Lib.hid (show (∀ b,blk Is = some b → b < w4.heap.size) ∧ (∀ b,blk Fs = some b → b < w4.heap.size) ∧ (∀ b,blk Fo = some b → b < w4.heap.size) from ⟨fun b hb => by have:=hLT.out.1 b hb; omega,fun b hb => by have:=hLT.out.2.1 b hb; omega,hLT.out.2.2⟩)
    have hZ8:=Lib.hid (show w4.heap.size < w7.heap.size by omega)
    have hWB:=Lib.hid (show w.heap.size < w4.heap.size by omega)
    by_cases hfan : line = wFans
    ·have HQ : Hid (blR (who,is,fs,nx) line = ((who,is,fs,nx),ftOf fs)):=Lib.hid (by rw [HBL.out,if_pos hfan])
     have qb : (line.toList == ({ data:=#[102,97,110,115] } : ByteArray).toList) = true:=beq_iff_eq.2 (congrArg _ hfan)
     have qa : (line.toList == [102,97,110,115]) = true:=by have:=qb; rw [show ({ data:=#[102,97,110,115] } : ByteArray).toList = [102,97,110,115] by rw [ByteArray.toList_eq]] at this; exact this
     clear hfan HBL
     go_wp2_with fail
     go_loopw [12,13] (fun t i wr => ∃ k : Nat,k ≤ fs.length ∧ t = .string (ftTo fs k) ∧ i = .int .i64 k ∧ Below w7.heap.size w7 wr) (fun _ i _ => fs.length - (intOf i).toNat)
     case atStart => exact ⟨0,Nat.zero_le _,rfl,rfl,Below.refl _ _⟩
     case round =>
      obtain ⟨k,hk,rfl,rfl,hb7⟩:=hrel
      have kr:=k7.trans (hb7.mono k7.size)
      have zr:=kr.size
      have oBr:=Own.below oB7 hb7
      have a0:=(show _ = some (Value.string who.1) from oBr.cell rfl (j:=0) (by omega))
      have a1:=(show _ = some (Value.string who.2) from oBr.cell rfl (j:=1) (by omega))
      have a2:=(show _ = some (Value.slice I is.length ci) from oBr.cell rfl (j:=2) (by omega))
      have a3:=(show _ = some (Value.slice F fs.length cf) from oBr.cell rfl (j:=3) (by omega))
      have a4:=(show _ = some (Value.int .i64 nx) from oBr.cell rfl (j:=4) (by omega))
      by_cases hlt : k < fs.length
      ·have hts:=ftTo_size fs k
       have hxs:=htOf_size (gt fs k)
       obtain ⟨m1,m2⟩:=HFZ.out k hlt
       obtain ⟨b,off,rfl,hbb,hc⟩:=(hF.below (kr.mono hB)).at_ (by omega)
       have c0 : wr.cell? ⟨b,off + k * 2,none⟩ = some (Value.string (gt fs k).1):=hc k 0 (by omega) (by omega)
       have c1 : wr.cell? ⟨b,off + k * 2 + 1,none⟩ = some (Value.string (gt fs k).2):=hc k 1 (by omega) (by omega)
       have HFT : Hid (ftTo fs (k + 1) = (if 0 < k then ftTo fs k ++ sp else ftTo fs k) ++ htOf (gt fs k)):=Lib.hid rfl
       clear hc
       generalize ftTo fs k = t at *
       by_cases hk0 : 0 < k
       ·have d0 : decide ((0 : Int) < (k : Int)) = true:=decide_eq_true (by omega)
        have d0n : decide (0 < k) = true:=decide_eq_true hk0
        have HN:=Lib.hid (HFT.out.trans (by rw [if_pos hk0]))
        clear hk0
        go_wp2_with fail
        refine (specHandleText_any (gt fs k).1 (gt fs k).2 wr m1 m2).mono ?_
        rintro e w8 ⟨rfl,b8⟩
        rw [show htOf ((gt fs k).1,(gt fs k).2) = htOf (gt fs k) from rfl]
        generalize htOf (gt fs k) = x at *
        have hb8:=hb7.trans (b8.mono hb7.size)
        clear c0 c1 a0 a1 a2 a3 a4
        go_wp2_with fail
        go_roundw
        case rel => exact ⟨k + 1,by omega,by rw [HN.out] <;> rfl,by go_num,hb8⟩
        case measure => simp [intOf]; omega
       ·have d0 : decide ((0 : Int) < (k : Int)) = false:=decide_eq_false (by omega)
        have d0n : decide (0 < k) = false:=decide_eq_false hk0
        have HN:=Lib.hid (HFT.out.trans (by rw [if_neg hk0]))
        clear hk0
        go_wp2_with fail
        refine (specHandleText_any (gt fs k).1 (gt fs k).2 wr m1 m2).mono ?_
        rintro e w8 ⟨rfl,b8⟩
        rw [show htOf ((gt fs k).1,(gt fs k).2) = htOf (gt fs k) from rfl]
        generalize htOf (gt fs k) = x at *
        have hb8:=hb7.trans (b8.mono hb7.size)
        clear c0 c1 a0 a1 a2 a3 a4
        go_wp2_with fail
        go_roundw
        case rel => exact ⟨k + 1,by omega,by rw [HN.out] <;> rfl,by go_num,hb8⟩
        case measure => simp [intOf]; omega
      ·obtain rfl : k = fs.length:=by omega
       have oR9:=Own.below oR7 hb7
       have oS9:=Own.below oS7 hb7
       have pI9:=Own.below pI7 hb7
       have pF9:=Own.below pF7 hb7
       have k9:=kr
       clear oBr
       by_cases h0 : fs.length = 0
       ·have HQ2:=Lib.hid (HQ.out.trans (by rw [show ftOf fs = { data:=#[110,111,110,101] } from if_pos h0]))
        have HQ:=HQ2
        have et : ftTo fs fs.length = { data:=#[] }:=by rw [h0]; rfl
        rw [et]
        clear et h0
        have a0:=(show _ = some (Value.string who.1) from oS9.cell rfl (j:=0) (by omega))
        have a1:=(show _ = some (Value.string who.2) from oS9.cell rfl (j:=1) (by omega))
        have a2:=(show _ = some (Value.slice Is is.length cis) from oS9.cell rfl (j:=2) (by omega))
        have a3:=(show _ = some (Value.slice Fs fs.length cfs) from oS9.cell rfl (j:=3) (by omega))
        have a4:=(show _ = some (Value.int .i64 nx) from oS9.cell rfl (j:=4) (by omega))
        have r0:=(show _ = some (Value.string { data:=#[] }) from oR9.cell rfl (j:=0) (by omega))
        have rf0:=oR9.frozen rfl 0
        have r1:=(show _ = some (Value.string { data:=#[] }) from oR9.cell rfl (j:=1) (by omega))
        have rf1:=oR9.frozen rfl 1
        have r2:=(show _ = some (Value.slice none 0 0) from oR9.cell rfl (j:=2) (by omega))
        have rf2:=oR9.frozen rfl 2
        have r3:=(show _ = some (Value.slice none 0 0) from oR9.cell rfl (j:=3) (by omega))
        have rf3:=oR9.frozen rfl 3
        have r4:=(show _ = some (Value.int .i64 0) from oR9.cell rfl (j:=4) (by omega))
        have rf4:=oR9.frozen rfl 4
        go_wp2_with fail
        refine bodyPost_ret (v:=.tuple #[.agg #[Value.string who.1,Value.string who.2,Value.slice Is is.length cis,Value.slice Fs fs.length cfs,Value.int .i64 nx],.string { data:=#[110,111,110,101] }]) ?_ rfl ?_
        ·simp [results,Tryz.results8,go_sem,r0,r1,r2,r3,r4]
        ·rw [HQ.out]
         exact ⟨Is,cis,Fs,cfs,rfl,Own.more (own_setN (own_setN (own_setN (own_setN (own_setN pI9 (w.heap.size + 1) 0 (Value.string who.1) hNI) (w.heap.size + 1) 1 (Value.string who.2) hNI) (w.heap.size + 1) 2 (Value.slice Is is.length cis) hNI) (w.heap.size + 1) 3 (Value.slice Fs fs.length cfs) hNI) (w.heap.size + 1) 4 (Value.int .i64 nx) hNI) (by omega),Own.more (own_setN (own_setN (own_setN (own_setN (own_setN pF9 (w.heap.size + 1) 0 (Value.string who.1) hNF) (w.heap.size + 1) 1 (Value.string who.2) hNF) (w.heap.size + 1) 2 (Value.slice Is is.length cis) hNF) (w.heap.size + 1) 3 (Value.slice Fs fs.length cfs) hNF) (w.heap.size + 1) 4 (Value.int .i64 nx) hNF) (by omega),(((((k9.setCell (p:=⟨w.heap.size + 1,0,none⟩) (by show w.heap.size ≤ w.heap.size + 1; omega) (Value.string who.1)).setCell (p:=⟨w.heap.size + 1,1,none⟩) (by show w.heap.size ≤ w.heap.size + 1; omega) (Value.string who.2)).setCell (p:=⟨w.heap.size + 1,2,none⟩) (by show w.heap.size ≤ w.heap.size + 1; omega) (Value.slice Is is.length cis)).setCell (p:=⟨w.heap.size + 1,3,none⟩) (by show w.heap.size ≤ w.heap.size + 1; omega) (Value.slice Fs fs.length cfs)).setCell (p:=⟨w.heap.size + 1,4,none⟩) (by show w.heap.size ≤ w.heap.size + 1; omega) (Value.int .i64 nx))⟩
       ·have hpos : 0 < (ftTo fs fs.length).size:=by obtain ⟨m,hm⟩ : ∃ m,fs.length = m + 1:=⟨fs.length - 1,by omega⟩; rw [hm]; exact ftTo_pos HFV.out (by omega)
        have HQ2:=Lib.hid (HQ.out.trans (by rw [show ftOf fs = ftTo fs fs.length from if_neg h0]))
        have HQ:=HQ2
        generalize ftTo fs fs.length = t at *
        have q1 : t.toList.isEmpty = false:=by rw [tl_empty]; exact beq_eq_false_iff_ne.2 (by omega)
        have q2 : (t.toList == []) = false:=by cases hl : t.toList with
         | nil => rw [hl] at q1; cases q1
         | cons x r => rfl
        clear hpos h0
        have a0:=(show _ = some (Value.string who.1) from oS9.cell rfl (j:=0) (by omega))
        have a1:=(show _ = some (Value.string who.2) from oS9.cell rfl (j:=1) (by omega))
        have a2:=(show _ = some (Value.slice Is is.length cis) from oS9.cell rfl (j:=2) (by omega))
        have a3:=(show _ = some (Value.slice Fs fs.length cfs) from oS9.cell rfl (j:=3) (by omega))
        have a4:=(show _ = some (Value.int .i64 nx) from oS9.cell rfl (j:=4) (by omega))
        have r0:=(show _ = some (Value.string { data:=#[] }) from oR9.cell rfl (j:=0) (by omega))
        have rf0:=oR9.frozen rfl 0
        have r1:=(show _ = some (Value.string { data:=#[] }) from oR9.cell rfl (j:=1) (by omega))
        have rf1:=oR9.frozen rfl 1
        have r2:=(show _ = some (Value.slice none 0 0) from oR9.cell rfl (j:=2) (by omega))
        have rf2:=oR9.frozen rfl 2
        have r3:=(show _ = some (Value.slice none 0 0) from oR9.cell rfl (j:=3) (by omega))
        have rf3:=oR9.frozen rfl 3
        have r4:=(show _ = some (Value.int .i64 0) from oR9.cell rfl (j:=4) (by omega))
        have rf4:=oR9.frozen rfl 4
        go_wp2_with fail
        refine bodyPost_ret (v:=.tuple #[.agg #[Value.string who.1,Value.string who.2,Value.slice Is is.length cis,Value.slice Fs fs.length cfs,Value.int .i64 nx],.string t]) ?_ rfl ?_
        ·simp [results,Tryz.results8,go_sem,r0,r1,r2,r3,r4]
        ·rw [HQ.out]
         exact ⟨Is,cis,Fs,cfs,rfl,Own.more (own_setN (own_setN (own_setN (own_setN (own_setN pI9 (w.heap.size + 1) 0 (Value.string who.1) hNI) (w.heap.size + 1) 1 (Value.string who.2) hNI) (w.heap.size + 1) 2 (Value.slice Is is.length cis) hNI) (w.heap.size + 1) 3 (Value.slice Fs fs.length cfs) hNI) (w.heap.size + 1) 4 (Value.int .i64 nx) hNI) (by omega),Own.more (own_setN (own_setN (own_setN (own_setN (own_setN pF9 (w.heap.size + 1) 0 (Value.string who.1) hNF) (w.heap.size + 1) 1 (Value.string who.2) hNF) (w.heap.size + 1) 2 (Value.slice Is is.length cis) hNF) (w.heap.size + 1) 3 (Value.slice Fs fs.length cfs) hNF) (w.heap.size + 1) 4 (Value.int .i64 nx) hNF) (by omega),(((((k9.setCell (p:=⟨w.heap.size + 1,0,none⟩) (by show w.heap.size ≤ w.heap.size + 1; omega) (Value.string who.1)).setCell (p:=⟨w.heap.size + 1,1,none⟩) (by show w.heap.size ≤ w.heap.size + 1; omega) (Value.string who.2)).setCell (p:=⟨w.heap.size + 1,2,none⟩) (by show w.heap.size ≤ w.heap.size + 1; omega) (Value.slice Is is.length cis)).setCell (p:=⟨w.heap.size + 1,3,none⟩) (by show w.heap.size ≤ w.heap.size + 1; omega) (Value.slice Fs fs.length cfs)).setCell (p:=⟨w.heap.size + 1,4,none⟩) (by show w.heap.size ≤ w.heap.size + 1; omega) (Value.int .i64 nx))⟩
    ·have HBL1:=Lib.hid (HBL.out.trans (if_neg hfan))
     have qb : (line.toList == ({ data:=#[102,97,110,115] } : ByteArray).toList) = false:=ba_ne_list hfan
     have qa : (line.toList == [102,97,110,115]) = false:=by have:=qb; rw [show ({ data:=#[102,97,110,115] } : ByteArray).toList = [102,97,110,115] by rw [ByteArray.toList_eq]] at this; exact this
     rw [HW1.out] at HBL1
     clear hfan HBL HW1
     by_cases hwd : (line.extract 0 a) = wFollow
     ·skip
      have HC:=Lib.hid (HBL1.out.trans (show casc (who,is,fs,nx) (line.extract 0 a) rs = folwOf (who,is,fs,nx) rs by rw [hwd]; rfl))
      have h0 : (line.extract 0 a) = wFollow:=hwd
      have y0b : ((line.extract 0 a).toList == ({ data:=#[102,111,108,108,111,119] } : ByteArray).toList) = true:=beq_iff_eq.2 (congrArg _ h0)
      have y0a : ((line.extract 0 a).toList == [102,111,108,108,111,119]) = true:=by have:=y0b; rw [show ({ data:=#[102,111,108,108,111,119] } : ByteArray).toList = [102,111,108,108,111,119] by rw [ByteArray.toList_eq]] at this; exact this
      have h1 : (line.extract 0 a) ≠ wLeave:=by rw [hwd]; decide
      have y1b : ((line.extract 0 a).toList == ({ data:=#[108,101,97,118,101] } : ByteArray).toList) = false:=ba_ne_list h1
      have y1a : ((line.extract 0 a).toList == [108,101,97,118,101]) = false:=by have:=y1b; rw [show ({ data:=#[108,101,97,118,101] } : ByteArray).toList = [108,101,97,118,101] by rw [ByteArray.toList_eq]] at this; exact this
      have h2 : (line.extract 0 a) ≠ wItem:=by rw [hwd]; decide
      have y2b : ((line.extract 0 a).toList == ({ data:=#[105,116,101,109] } : ByteArray).toList) = false:=ba_ne_list h2
      have y2a : ((line.extract 0 a).toList == [105,116,101,109]) = false:=by have:=y2b; rw [show ({ data:=#[105,116,101,109] } : ByteArray).toList = [105,116,101,109] by rw [ByteArray.toList_eq]] at this; exact this
      have h3 : (line.extract 0 a) ≠ wGone:=by rw [hwd]; decide
      have y3b : ((line.extract 0 a).toList == ({ data:=#[103,111,110,101] } : ByteArray).toList) = false:=ba_ne_list h3
      have y3a : ((line.extract 0 a).toList == [103,111,110,101]) = false:=by have:=y3b; rw [show ({ data:=#[103,111,110,101] } : ByteArray).toList = [103,111,110,101] by rw [ByteArray.toList_eq]] at this; exact this
      clear h0 h1 h2 h3
      clear hwd HBL1
      cases ho : rhOk rs
      ·have HQ : Hid (blR (who,is,fs,nx) line = ((who,is,fs,nx),wNo)):=Lib.hid (HC.out.trans (by unfold folwOf; rw [if_neg (by rw [ho]; simp)]))
       clear ho HC
       have a0:=(show _ = some (Value.string who.1) from oS7.cell rfl (j:=0) (by omega))
       have a1:=(show _ = some (Value.string who.2) from oS7.cell rfl (j:=1) (by omega))
       have a2:=(show _ = some (Value.slice Is is.length cis) from oS7.cell rfl (j:=2) (by omega))
       have a3:=(show _ = some (Value.slice Fs fs.length cfs) from oS7.cell rfl (j:=3) (by omega))
       have a4:=(show _ = some (Value.int .i64 nx) from oS7.cell rfl (j:=4) (by omega))
       have r0:=(show _ = some (Value.string { data:=#[] }) from oR7.cell rfl (j:=0) (by omega))
       have rf0:=oR7.frozen rfl 0
       have r1:=(show _ = some (Value.string { data:=#[] }) from oR7.cell rfl (j:=1) (by omega))
       have rf1:=oR7.frozen rfl 1
       have r2:=(show _ = some (Value.slice none 0 0) from oR7.cell rfl (j:=2) (by omega))
       have rf2:=oR7.frozen rfl 2
       have r3:=(show _ = some (Value.slice none 0 0) from oR7.cell rfl (j:=3) (by omega))
       have rf3:=oR7.frozen rfl 3
       have r4:=(show _ = some (Value.int .i64 0) from oR7.cell rfl (j:=4) (by omega))
       have rf4:=oR7.frozen rfl 4
       go_wp2_with fail
       refine bodyPost_ret (v:=.tuple #[.agg #[Value.string who.1,Value.string who.2,Value.slice Is is.length cis,Value.slice Fs fs.length cfs,Value.int .i64 nx],.string { data:=#[110,111] }]) ?_ rfl ?_
       ·simp [results,Tryz.results8,go_sem,r0,r1,r2,r3,r4]
       ·rw [HQ.out]
        exact ⟨Is,cis,Fs,cfs,rfl,Own.more (own_setN (own_setN (own_setN (own_setN (own_setN pI7 (w.heap.size + 1) 0 (Value.string who.1) hNI) (w.heap.size + 1) 1 (Value.string who.2) hNI) (w.heap.size + 1) 2 (Value.slice Is is.length cis) hNI) (w.heap.size + 1) 3 (Value.slice Fs fs.length cfs) hNI) (w.heap.size + 1) 4 (Value.int .i64 nx) hNI) (by omega),Own.more (own_setN (own_setN (own_setN (own_setN (own_setN pF7 (w.heap.size + 1) 0 (Value.string who.1) hNF) (w.heap.size + 1) 1 (Value.string who.2) hNF) (w.heap.size + 1) 2 (Value.slice Is is.length cis) hNF) (w.heap.size + 1) 3 (Value.slice Fs fs.length cfs) hNF) (w.heap.size + 1) 4 (Value.int .i64 nx) hNF) (by omega),(((((k7.setCell (p:=⟨w.heap.size + 1,0,none⟩) (by show w.heap.size ≤ w.heap.size + 1; omega) (Value.string who.1)).setCell (p:=⟨w.heap.size + 1,1,none⟩) (by show w.heap.size ≤ w.heap.size + 1; omega) (Value.string who.2)).setCell (p:=⟨w.heap.size + 1,2,none⟩) (by show w.heap.size ≤ w.heap.size + 1; omega) (Value.slice Is is.length cis)).setCell (p:=⟨w.heap.size + 1,3,none⟩) (by show w.heap.size ≤ w.heap.size + 1; omega) (Value.slice Fs fs.length cfs)).setCell (p:=⟨w.heap.size + 1,4,none⟩) (by show w.heap.size ≤ w.heap.size + 1; omega) (Value.int .i64 nx))⟩
      ·obtain ⟨⟨_,hz1⟩,_,hz2⟩:=hv_sizes (rhOf_hv ho)
       have HPQ : Hid (blR (who,is,fs,nx) line = if folOk fs (rhOf rs) = true then ((who,is,folOf fs (rhOf rs),nx),wOk) else ((who,is,fs,nx),wNo)):=Lib.hid (HC.out.trans (by unfold folwOf; rw [if_pos ho]))
       clear ho HC
       generalize rhOf rs = x at *
       have hx1 : x.1.size ≤ maxLen:=by unfold maxLen; omega
       have hx2 : x.2.size ≤ maxLen:=by unfold maxLen; omega
       have a0:=(show _ = some (Value.string who.1) from oB7.cell rfl (j:=0) (by omega))
       have a1:=(show _ = some (Value.string who.2) from oB7.cell rfl (j:=1) (by omega))
       have a2:=(show _ = some (Value.slice I is.length ci) from oB7.cell rfl (j:=2) (by omega))
       have a3:=(show _ = some (Value.slice F fs.length cf) from oB7.cell rfl (j:=3) (by omega))
       have a4:=(show _ = some (Value.int .i64 nx) from oB7.cell rfl (j:=4) (by omega))
       have e0:=(show _ = some (Value.string x.1) from oH7.cell rfl (j:=0) (by omega))
       have e1:=(show _ = some (Value.string x.2) from oH7.cell rfl (j:=1) (by omega))
       go_wp2_with fail
       refine (specFollow_any F cf w7.heap.size fs x w7 ((hF.below (k7.mono hB)).more hB7) (Nat.le_refl _) (by omega) hSF (fv_sz HFV.out) ⟨hx1,hx2⟩).mono ?_
       rintro e w8 ⟨R,cR,rfl,g8,b8⟩
       have k8:=k7.trans (b8.mono k7.size)
       have oB8:=Own.below oB7 b8
       have oR8:=Own.below oR7 b8
       have oS8:=Own.below oS7 b8
       have oO8:=Own.below oO7 b8
       have pI8:=Own.below pI7 b8
       have pF8:=Own.below pF7 b8
       have jI8:=Own.below jI7 b8
       clear a0 a1 a2 a3 a4 e0 e1
       cases ho : folOk fs x
       ·have HQ:=Lib.hid (HPQ.out.trans (by rw [if_neg (by rw [ho]; simp)]))
        clear ho
        generalize folOf fs x = gs at *
        have hoC:=oO8.cell rfl (j:=3) (by omega)
        have sO:=Own.set oO8 rfl (j:=3) (Value.slice R gs.length cR)
        have fzO:=oO8.frozen rfl 3
        have oO9:=sO.1
        have k9:=k8.setCell (p:=⟨w4.heap.size,3,none⟩) zk4 (Value.slice R gs.length cR)
        have oR9:=own_setN oR8 w4.heap.size 3 (Value.slice R gs.length cR) (fun b hb => by simp [blk] at hb; omega)
        have oB9:=own_setN oB8 w4.heap.size 3 (Value.slice R gs.length cR) (fun b hb => by simp [blk] at hb; omega)
        have oS9:=own_setN oS8 w4.heap.size 3 (Value.slice R gs.length cR) (fun b hb => by simp [blk] at hb; omega)
        have pI9:=own_setN pI8 w4.heap.size 3 (Value.slice R gs.length cR) (fun b hb e => own_ne pI8 oO8 (by decide) b hb (by rw [e]; rfl))
        have pF9:=own_setN pF8 w4.heap.size 3 (Value.slice R gs.length cR) (fun b hb e => own_ne pF8 oO8 (by decide) b hb (by rw [e]; rfl))
        have jI9:=own_setN jI8 w4.heap.size 3 (Value.slice R gs.length cR) (fun b hb e => own_ne jI8 oO8 (by decide) b hb (by rw [e]; rfl))
        have g9:=own_setN g8 w4.heap.size 3 (Value.slice R gs.length cR) (fun b hb e => own_ne g8 oO8 (by decide) b hb (by rw [e]; rfl))
        go_upto_if 99 with fail
        clear hoC fzO
        generalize (w8.setCell ⟨w4.heap.size,3,none⟩ (Value.slice R gs.length cR)) = w9 at *
        have a0:=(show _ = some (Value.string who.1) from oS9.cell rfl (j:=0) (by omega))
        have a1:=(show _ = some (Value.string who.2) from oS9.cell rfl (j:=1) (by omega))
        have a2:=(show _ = some (Value.slice Is is.length cis) from oS9.cell rfl (j:=2) (by omega))
        have a3:=(show _ = some (Value.slice Fs fs.length cfs) from oS9.cell rfl (j:=3) (by omega))
        have a4:=(show _ = some (Value.int .i64 nx) from oS9.cell rfl (j:=4) (by omega))
        have r0:=(show _ = some (Value.string { data:=#[] }) from oR9.cell rfl (j:=0) (by omega))
        have rf0:=oR9.frozen rfl 0
        have r1:=(show _ = some (Value.string { data:=#[] }) from oR9.cell rfl (j:=1) (by omega))
        have rf1:=oR9.frozen rfl 1
        have r2:=(show _ = some (Value.slice none 0 0) from oR9.cell rfl (j:=2) (by omega))
        have rf2:=oR9.frozen rfl 2
        have r3:=(show _ = some (Value.slice none 0 0) from oR9.cell rfl (j:=3) (by omega))
        have rf3:=oR9.frozen rfl 3
        have r4:=(show _ = some (Value.int .i64 0) from oR9.cell rfl (j:=4) (by omega))
        have rf4:=oR9.frozen rfl 4
        go_wp2_with fail
        refine bodyPost_ret (v:=.tuple #[.agg #[Value.string who.1,Value.string who.2,Value.slice Is is.length cis,Value.slice Fs fs.length cfs,Value.int .i64 nx],.string { data:=#[110,111] }]) ?_ rfl ?_
        ·simp [results,Tryz.results8,go_sem,r0,r1,r2,r3,r4]
        ·rw [HQ.out]
         exact ⟨Is,cis,Fs,cfs,rfl,Own.more (own_setN (own_setN (own_setN (own_setN (own_setN pI9 (w.heap.size + 1) 0 (Value.string who.1) hNI) (w.heap.size + 1) 1 (Value.string who.2) hNI) (w.heap.size + 1) 2 (Value.slice Is is.length cis) hNI) (w.heap.size + 1) 3 (Value.slice Fs fs.length cfs) hNI) (w.heap.size + 1) 4 (Value.int .i64 nx) hNI) (by omega),Own.more (own_setN (own_setN (own_setN (own_setN (own_setN pF9 (w.heap.size + 1) 0 (Value.string who.1) hNF) (w.heap.size + 1) 1 (Value.string who.2) hNF) (w.heap.size + 1) 2 (Value.slice Is is.length cis) hNF) (w.heap.size + 1) 3 (Value.slice Fs fs.length cfs) hNF) (w.heap.size + 1) 4 (Value.int .i64 nx) hNF) (by omega),(((((k9.setCell (p:=⟨w.heap.size + 1,0,none⟩) (by show w.heap.size ≤ w.heap.size + 1; omega) (Value.string who.1)).setCell (p:=⟨w.heap.size + 1,1,none⟩) (by show w.heap.size ≤ w.heap.size + 1; omega) (Value.string who.2)).setCell (p:=⟨w.heap.size + 1,2,none⟩) (by show w.heap.size ≤ w.heap.size + 1; omega) (Value.slice Is is.length cis)).setCell (p:=⟨w.heap.size + 1,3,none⟩) (by show w.heap.size ≤ w.heap.size + 1; omega) (Value.slice Fs fs.length cfs)).setCell (p:=⟨w.heap.size + 1,4,none⟩) (by show w.heap.size ≤ w.heap.size + 1; omega) (Value.int .i64 nx))⟩
       ·have HQ:=Lib.hid (HPQ.out.trans (by rw [if_pos ho]))
        clear ho
        generalize folOf fs x = gs at *
        have hoC:=oO8.cell rfl (j:=3) (by omega)
        have sO:=Own.set oO8 rfl (j:=3) (Value.slice R gs.length cR)
        have fzO:=oO8.frozen rfl 3
        have oO9:=sO.1
        have k9:=k8.setCell (p:=⟨w4.heap.size,3,none⟩) zk4 (Value.slice R gs.length cR)
        have oR9:=own_setN oR8 w4.heap.size 3 (Value.slice R gs.length cR) (fun b hb => by simp [blk] at hb; omega)
        have oB9:=own_setN oB8 w4.heap.size 3 (Value.slice R gs.length cR) (fun b hb => by simp [blk] at hb; omega)
        have oS9:=own_setN oS8 w4.heap.size 3 (Value.slice R gs.length cR) (fun b hb => by simp [blk] at hb; omega)
        have pI9:=own_setN pI8 w4.heap.size 3 (Value.slice R gs.length cR) (fun b hb e => own_ne pI8 oO8 (by decide) b hb (by rw [e]; rfl))
        have pF9:=own_setN pF8 w4.heap.size 3 (Value.slice R gs.length cR) (fun b hb e => own_ne pF8 oO8 (by decide) b hb (by rw [e]; rfl))
        have jI9:=own_setN jI8 w4.heap.size 3 (Value.slice R gs.length cR) (fun b hb e => own_ne jI8 oO8 (by decide) b hb (by rw [e]; rfl))
        have g9:=own_setN g8 w4.heap.size 3 (Value.slice R gs.length cR) (fun b hb e => own_ne g8 oO8 (by decide) b hb (by rw [e]; rfl))
        go_upto_if 99 with fail
        clear hoC fzO
        generalize (w8.setCell ⟨w4.heap.size,3,none⟩ (Value.slice R gs.length cR)) = w9 at *
        have a0:=(show _ = some (Value.string who.1) from oO9.cell rfl (j:=0) (by omega))
        have a1:=(show _ = some (Value.string who.2) from oO9.cell rfl (j:=1) (by omega))
        have a2:=(show _ = some (Value.slice Io is.length cio) from oO9.cell rfl (j:=2) (by omega))
        have a3:=(show _ = some (Value.slice R gs.length cR) from oO9.cell rfl (j:=3) (by omega))
        have a4:=(show _ = some (Value.int .i64 nx) from oO9.cell rfl (j:=4) (by omega))
        have r0:=(show _ = some (Value.string { data:=#[] }) from oR9.cell rfl (j:=0) (by omega))
        have rf0:=oR9.frozen rfl 0
        have r1:=(show _ = some (Value.string { data:=#[] }) from oR9.cell rfl (j:=1) (by omega))
        have rf1:=oR9.frozen rfl 1
        have r2:=(show _ = some (Value.slice none 0 0) from oR9.cell rfl (j:=2) (by omega))
        have rf2:=oR9.frozen rfl 2
        have r3:=(show _ = some (Value.slice none 0 0) from oR9.cell rfl (j:=3) (by omega))
        have rf3:=oR9.frozen rfl 3
        have r4:=(show _ = some (Value.int .i64 0) from oR9.cell rfl (j:=4) (by omega))
        have rf4:=oR9.frozen rfl 4
        have hNR : ∀ b,blk R = some b → b ≠ w.heap.size + 1:=fun b hb e => own_ne g9 oR9 (by decide) b hb (by rw [e]; rfl)
        have zb7:=k7.size
        go_wp2_with fail
        refine bodyPost_ret (v:=.tuple #[.agg #[Value.string who.1,Value.string who.2,Value.slice Io is.length cio,Value.slice R gs.length cR,Value.int .i64 nx],.string { data:=#[111,107] }]) ?_ rfl ?_
        ·simp [results,Tryz.results8,go_sem,r0,r1,r2,r3,r4]
        ·rw [HQ.out]
         exact ⟨Io,cio,R,cR,rfl,Own.more (own_setN (own_setN (own_setN (own_setN (own_setN jI9 (w.heap.size + 1) 0 (Value.string who.1) hNK) (w.heap.size + 1) 1 (Value.string who.2) hNK) (w.heap.size + 1) 2 (Value.slice Io is.length cio) hNK) (w.heap.size + 1) 3 (Value.slice R gs.length cR) hNK) (w.heap.size + 1) 4 (Value.int .i64 nx) hNK) (by omega),Own.more (own_setN (own_setN (own_setN (own_setN (own_setN g9 (w.heap.size + 1) 0 (Value.string who.1) hNR) (w.heap.size + 1) 1 (Value.string who.2) hNR) (w.heap.size + 1) 2 (Value.slice Io is.length cio) hNR) (w.heap.size + 1) 3 (Value.slice R gs.length cR) hNR) (w.heap.size + 1) 4 (Value.int .i64 nx) hNR) (by omega),(((((k9.setCell (p:=⟨w.heap.size + 1,0,none⟩) (by show w.heap.size ≤ w.heap.size + 1; omega) (Value.string who.1)).setCell (p:=⟨w.heap.size + 1,1,none⟩) (by show w.heap.size ≤ w.heap.size + 1; omega) (Value.string who.2)).setCell (p:=⟨w.heap.size + 1,2,none⟩) (by show w.heap.size ≤ w.heap.size + 1; omega) (Value.slice Io is.length cio)).setCell (p:=⟨w.heap.size + 1,3,none⟩) (by show w.heap.size ≤ w.heap.size + 1; omega) (Value.slice R gs.length cR)).setCell (p:=⟨w.heap.size + 1,4,none⟩) (by show w.heap.size ≤ w.heap.size + 1; omega) (Value.int .i64 nx))⟩
     ·have hn0:=hwd
      clear hwd
      by_cases hwd : (line.extract 0 a) = wLeave
      ·skip
       have HC:=Lib.hid (HBL1.out.trans (show casc (who,is,fs,nx) (line.extract 0 a) rs = leavOf (who,is,fs,nx) rs by rw [hwd]; rfl))
       have h0 : (line.extract 0 a) ≠ wFollow:=by rw [hwd]; decide
       have y0b : ((line.extract 0 a).toList == ({ data:=#[102,111,108,108,111,119] } : ByteArray).toList) = false:=ba_ne_list h0
       have y0a : ((line.extract 0 a).toList == [102,111,108,108,111,119]) = false:=by have:=y0b; rw [show ({ data:=#[102,111,108,108,111,119] } : ByteArray).toList = [102,111,108,108,111,119] by rw [ByteArray.toList_eq]] at this; exact this
       have h1 : (line.extract 0 a) = wLeave:=hwd
       have y1b : ((line.extract 0 a).toList == ({ data:=#[108,101,97,118,101] } : ByteArray).toList) = true:=beq_iff_eq.2 (congrArg _ h1)
       have y1a : ((line.extract 0 a).toList == [108,101,97,118,101]) = true:=by have:=y1b; rw [show ({ data:=#[108,101,97,118,101] } : ByteArray).toList = [108,101,97,118,101] by rw [ByteArray.toList_eq]] at this; exact this
       have h2 : (line.extract 0 a) ≠ wItem:=by rw [hwd]; decide
       have y2b : ((line.extract 0 a).toList == ({ data:=#[105,116,101,109] } : ByteArray).toList) = false:=ba_ne_list h2
       have y2a : ((line.extract 0 a).toList == [105,116,101,109]) = false:=by have:=y2b; rw [show ({ data:=#[105,116,101,109] } : ByteArray).toList = [105,116,101,109] by rw [ByteArray.toList_eq]] at this; exact this
       have h3 : (line.extract 0 a) ≠ wGone:=by rw [hwd]; decide
       have y3b : ((line.extract 0 a).toList == ({ data:=#[103,111,110,101] } : ByteArray).toList) = false:=ba_ne_list h3
       have y3a : ((line.extract 0 a).toList == [103,111,110,101]) = false:=by have:=y3b; rw [show ({ data:=#[103,111,110,101] } : ByteArray).toList = [103,111,110,101] by rw [ByteArray.toList_eq]] at this; exact this
       clear h0 h1 h2 h3
       clear hwd HBL1
       cases ho : rhOk rs
       ·have HQ : Hid (blR (who,is,fs,nx) line = ((who,is,fs,nx),wNo)):=Lib.hid (HC.out.trans (by unfold leavOf; rw [if_neg (by rw [ho]; simp)]))
        clear ho HC
        have a0:=(show _ = some (Value.string who.1) from oS7.cell rfl (j:=0) (by omega))
        have a1:=(show _ = some (Value.string who.2) from oS7.cell rfl (j:=1) (by omega))
        have a2:=(show _ = some (Value.slice Is is.length cis) from oS7.cell rfl (j:=2) (by omega))
        have a3:=(show _ = some (Value.slice Fs fs.length cfs) from oS7.cell rfl (j:=3) (by omega))
        have a4:=(show _ = some (Value.int .i64 nx) from oS7.cell rfl (j:=4) (by omega))
        have r0:=(show _ = some (Value.string { data:=#[] }) from oR7.cell rfl (j:=0) (by omega))
        have rf0:=oR7.frozen rfl 0
        have r1:=(show _ = some (Value.string { data:=#[] }) from oR7.cell rfl (j:=1) (by omega))
        have rf1:=oR7.frozen rfl 1
        have r2:=(show _ = some (Value.slice none 0 0) from oR7.cell rfl (j:=2) (by omega))
        have rf2:=oR7.frozen rfl 2
        have r3:=(show _ = some (Value.slice none 0 0) from oR7.cell rfl (j:=3) (by omega))
        have rf3:=oR7.frozen rfl 3
        have r4:=(show _ = some (Value.int .i64 0) from oR7.cell rfl (j:=4) (by omega))
        have rf4:=oR7.frozen rfl 4
        go_wp2_with fail
        refine bodyPost_ret (v:=.tuple #[.agg #[Value.string who.1,Value.string who.2,Value.slice Is is.length cis,Value.slice Fs fs.length cfs,Value.int .i64 nx],.string { data:=#[110,111] }]) ?_ rfl ?_
        ·simp [results,Tryz.results8,go_sem,r0,r1,r2,r3,r4]
        ·rw [HQ.out]
         exact ⟨Is,cis,Fs,cfs,rfl,Own.more (own_setN (own_setN (own_setN (own_setN (own_setN pI7 (w.heap.size + 1) 0 (Value.string who.1) hNI) (w.heap.size + 1) 1 (Value.string who.2) hNI) (w.heap.size + 1) 2 (Value.slice Is is.length cis) hNI) (w.heap.size + 1) 3 (Value.slice Fs fs.length cfs) hNI) (w.heap.size + 1) 4 (Value.int .i64 nx) hNI) (by omega),Own.more (own_setN (own_setN (own_setN (own_setN (own_setN pF7 (w.heap.size + 1) 0 (Value.string who.1) hNF) (w.heap.size + 1) 1 (Value.string who.2) hNF) (w.heap.size + 1) 2 (Value.slice Is is.length cis) hNF) (w.heap.size + 1) 3 (Value.slice Fs fs.length cfs) hNF) (w.heap.size + 1) 4 (Value.int .i64 nx) hNF) (by omega),(((((k7.setCell (p:=⟨w.heap.size + 1,0,none⟩) (by show w.heap.size ≤ w.heap.size + 1; omega) (Value.string who.1)).setCell (p:=⟨w.heap.size + 1,1,none⟩) (by show w.heap.size ≤ w.heap.size + 1; omega) (Value.string who.2)).setCell (p:=⟨w.heap.size + 1,2,none⟩) (by show w.heap.size ≤ w.heap.size + 1; omega) (Value.slice Is is.length cis)).setCell (p:=⟨w.heap.size + 1,3,none⟩) (by show w.heap.size ≤ w.heap.size + 1; omega) (Value.slice Fs fs.length cfs)).setCell (p:=⟨w.heap.size + 1,4,none⟩) (by show w.heap.size ≤ w.heap.size + 1; omega) (Value.int .i64 nx))⟩
       ·obtain ⟨⟨_,hz1⟩,_,hz2⟩:=hv_sizes (rhOf_hv ho)
        have HPQ : Hid (blR (who,is,fs,nx) line = if ufOk fs (rhOf rs) = true then ((who,is,ufOf fs (rhOf rs),nx),wOk) else ((who,is,fs,nx),wNo)):=Lib.hid (HC.out.trans (by unfold leavOf; rw [if_pos ho]))
        clear ho HC
        generalize rhOf rs = x at *
        have hx1 : x.1.size ≤ maxLen:=by unfold maxLen; omega
        have hx2 : x.2.size ≤ maxLen:=by unfold maxLen; omega
        have a0:=(show _ = some (Value.string who.1) from oB7.cell rfl (j:=0) (by omega))
        have a1:=(show _ = some (Value.string who.2) from oB7.cell rfl (j:=1) (by omega))
        have a2:=(show _ = some (Value.slice I is.length ci) from oB7.cell rfl (j:=2) (by omega))
        have a3:=(show _ = some (Value.slice F fs.length cf) from oB7.cell rfl (j:=3) (by omega))
        have a4:=(show _ = some (Value.int .i64 nx) from oB7.cell rfl (j:=4) (by omega))
        have e0:=(show _ = some (Value.string x.1) from oH7.cell rfl (j:=0) (by omega))
        have e1:=(show _ = some (Value.string x.2) from oH7.cell rfl (j:=1) (by omega))
        go_wp2_with fail
        refine (specUnfollow_any F cf w7.heap.size fs x w7 ((hF.below (k7.mono hB)).more hB7) (Nat.le_refl _) hSF HFV.out).mono ?_
        rintro e w8 ⟨R,cR,rfl,g8,b8⟩
        have k8:=k7.trans (b8.mono k7.size)
        have oB8:=Own.below oB7 b8
        have oR8:=Own.below oR7 b8
        have oS8:=Own.below oS7 b8
        have oO8:=Own.below oO7 b8
        have pI8:=Own.below pI7 b8
        have pF8:=Own.below pF7 b8
        have jI8:=Own.below jI7 b8
        clear a0 a1 a2 a3 a4 e0 e1
        cases ho : ufOk fs x
        ·have HQ:=Lib.hid (HPQ.out.trans (by rw [if_neg (by rw [ho]; simp)]))
         clear ho
         generalize ufOf fs x = gs at *
         have hoC:=oO8.cell rfl (j:=3) (by omega)
         have sO:=Own.set oO8 rfl (j:=3) (Value.slice R gs.length cR)
         have fzO:=oO8.frozen rfl 3
         have oO9:=sO.1
         have k9:=k8.setCell (p:=⟨w4.heap.size,3,none⟩) zk4 (Value.slice R gs.length cR)
         have oR9:=own_setN oR8 w4.heap.size 3 (Value.slice R gs.length cR) (fun b hb => by simp [blk] at hb; omega)
         have oB9:=own_setN oB8 w4.heap.size 3 (Value.slice R gs.length cR) (fun b hb => by simp [blk] at hb; omega)
         have oS9:=own_setN oS8 w4.heap.size 3 (Value.slice R gs.length cR) (fun b hb => by simp [blk] at hb; omega)
         have pI9:=own_setN pI8 w4.heap.size 3 (Value.slice R gs.length cR) (fun b hb e => own_ne pI8 oO8 (by decide) b hb (by rw [e]; rfl))
         have pF9:=own_setN pF8 w4.heap.size 3 (Value.slice R gs.length cR) (fun b hb e => own_ne pF8 oO8 (by decide) b hb (by rw [e]; rfl))
         have jI9:=own_setN jI8 w4.heap.size 3 (Value.slice R gs.length cR) (fun b hb e => own_ne jI8 oO8 (by decide) b hb (by rw [e]; rfl))
         have g9:=own_setN g8 w4.heap.size 3 (Value.slice R gs.length cR) (fun b hb e => own_ne g8 oO8 (by decide) b hb (by rw [e]; rfl))
         go_upto_if 119 with fail
         clear hoC fzO
         generalize (w8.setCell ⟨w4.heap.size,3,none⟩ (Value.slice R gs.length cR)) = w9 at *
         have a0:=(show _ = some (Value.string who.1) from oS9.cell rfl (j:=0) (by omega))
         have a1:=(show _ = some (Value.string who.2) from oS9.cell rfl (j:=1) (by omega))
         have a2:=(show _ = some (Value.slice Is is.length cis) from oS9.cell rfl (j:=2) (by omega))
         have a3:=(show _ = some (Value.slice Fs fs.length cfs) from oS9.cell rfl (j:=3) (by omega))
         have a4:=(show _ = some (Value.int .i64 nx) from oS9.cell rfl (j:=4) (by omega))
         have r0:=(show _ = some (Value.string { data:=#[] }) from oR9.cell rfl (j:=0) (by omega))
         have rf0:=oR9.frozen rfl 0
         have r1:=(show _ = some (Value.string { data:=#[] }) from oR9.cell rfl (j:=1) (by omega))
         have rf1:=oR9.frozen rfl 1
         have r2:=(show _ = some (Value.slice none 0 0) from oR9.cell rfl (j:=2) (by omega))
         have rf2:=oR9.frozen rfl 2
         have r3:=(show _ = some (Value.slice none 0 0) from oR9.cell rfl (j:=3) (by omega))
         have rf3:=oR9.frozen rfl 3
         have r4:=(show _ = some (Value.int .i64 0) from oR9.cell rfl (j:=4) (by omega))
         have rf4:=oR9.frozen rfl 4
         go_wp2_with fail
         refine bodyPost_ret (v:=.tuple #[.agg #[Value.string who.1,Value.string who.2,Value.slice Is is.length cis,Value.slice Fs fs.length cfs,Value.int .i64 nx],.string { data:=#[110,111] }]) ?_ rfl ?_
         ·simp [results,Tryz.results8,go_sem,r0,r1,r2,r3,r4]
         ·rw [HQ.out]
          exact ⟨Is,cis,Fs,cfs,rfl,Own.more (own_setN (own_setN (own_setN (own_setN (own_setN pI9 (w.heap.size + 1) 0 (Value.string who.1) hNI) (w.heap.size + 1) 1 (Value.string who.2) hNI) (w.heap.size + 1) 2 (Value.slice Is is.length cis) hNI) (w.heap.size + 1) 3 (Value.slice Fs fs.length cfs) hNI) (w.heap.size + 1) 4 (Value.int .i64 nx) hNI) (by omega),Own.more (own_setN (own_setN (own_setN (own_setN (own_setN pF9 (w.heap.size + 1) 0 (Value.string who.1) hNF) (w.heap.size + 1) 1 (Value.string who.2) hNF) (w.heap.size + 1) 2 (Value.slice Is is.length cis) hNF) (w.heap.size + 1) 3 (Value.slice Fs fs.length cfs) hNF) (w.heap.size + 1) 4 (Value.int .i64 nx) hNF) (by omega),(((((k9.setCell (p:=⟨w.heap.size + 1,0,none⟩) (by show w.heap.size ≤ w.heap.size + 1; omega) (Value.string who.1)).setCell (p:=⟨w.heap.size + 1,1,none⟩) (by show w.heap.size ≤ w.heap.size + 1; omega) (Value.string who.2)).setCell (p:=⟨w.heap.size + 1,2,none⟩) (by show w.heap.size ≤ w.heap.size + 1; omega) (Value.slice Is is.length cis)).setCell (p:=⟨w.heap.size + 1,3,none⟩) (by show w.heap.size ≤ w.heap.size + 1; omega) (Value.slice Fs fs.length cfs)).setCell (p:=⟨w.heap.size + 1,4,none⟩) (by show w.heap.size ≤ w.heap.size + 1; omega) (Value.int .i64 nx))⟩
        ·have HQ:=Lib.hid (HPQ.out.trans (by rw [if_pos ho]))
         clear ho
         generalize ufOf fs x = gs at *
         have hoC:=oO8.cell rfl (j:=3) (by omega)
         have sO:=Own.set oO8 rfl (j:=3) (Value.slice R gs.length cR)
         have fzO:=oO8.frozen rfl 3
         have oO9:=sO.1
         have k9:=k8.setCell (p:=⟨w4.heap.size,3,none⟩) zk4 (Value.slice R gs.length cR)
         have oR9:=own_setN oR8 w4.heap.size 3 (Value.slice R gs.length cR) (fun b hb => by simp [blk] at hb; omega)
         have oB9:=own_setN oB8 w4.heap.size 3 (Value.slice R gs.length cR) (fun b hb => by simp [blk] at hb; omega)
         have oS9:=own_setN oS8 w4.heap.size 3 (Value.slice R gs.length cR) (fun b hb => by simp [blk] at hb; omega)
         have pI9:=own_setN pI8 w4.heap.size 3 (Value.slice R gs.length cR) (fun b hb e => own_ne pI8 oO8 (by decide) b hb (by rw [e]; rfl))
         have pF9:=own_setN pF8 w4.heap.size 3 (Value.slice R gs.length cR) (fun b hb e => own_ne pF8 oO8 (by decide) b hb (by rw [e]; rfl))
         have jI9:=own_setN jI8 w4.heap.size 3 (Value.slice R gs.length cR) (fun b hb e => own_ne jI8 oO8 (by decide) b hb (by rw [e]; rfl))
         have g9:=own_setN g8 w4.heap.size 3 (Value.slice R gs.length cR) (fun b hb e => own_ne g8 oO8 (by decide) b hb (by rw [e]; rfl))
         go_upto_if 119 with fail
         clear hoC fzO
         generalize (w8.setCell ⟨w4.heap.size,3,none⟩ (Value.slice R gs.length cR)) = w9 at *
         have a0:=(show _ = some (Value.string who.1) from oO9.cell rfl (j:=0) (by omega))
         have a1:=(show _ = some (Value.string who.2) from oO9.cell rfl (j:=1) (by omega))
         have a2:=(show _ = some (Value.slice Io is.length cio) from oO9.cell rfl (j:=2) (by omega))
         have a3:=(show _ = some (Value.slice R gs.length cR) from oO9.cell rfl (j:=3) (by omega))
         have a4:=(show _ = some (Value.int .i64 nx) from oO9.cell rfl (j:=4) (by omega))
         have r0:=(show _ = some (Value.string { data:=#[] }) from oR9.cell rfl (j:=0) (by omega))
         have rf0:=oR9.frozen rfl 0
         have r1:=(show _ = some (Value.string { data:=#[] }) from oR9.cell rfl (j:=1) (by omega))
         have rf1:=oR9.frozen rfl 1
         have r2:=(show _ = some (Value.slice none 0 0) from oR9.cell rfl (j:=2) (by omega))
         have rf2:=oR9.frozen rfl 2
         have r3:=(show _ = some (Value.slice none 0 0) from oR9.cell rfl (j:=3) (by omega))
         have rf3:=oR9.frozen rfl 3
         have r4:=(show _ = some (Value.int .i64 0) from oR9.cell rfl (j:=4) (by omega))
         have rf4:=oR9.frozen rfl 4
         have hNR : ∀ b,blk R = some b → b ≠ w.heap.size + 1:=fun b hb e => own_ne g9 oR9 (by decide) b hb (by rw [e]; rfl)
         have zb7:=k7.size
         go_wp2_with fail
         refine bodyPost_ret (v:=.tuple #[.agg #[Value.string who.1,Value.string who.2,Value.slice Io is.length cio,Value.slice R gs.length cR,Value.int .i64 nx],.string { data:=#[111,107] }]) ?_ rfl ?_
         ·simp [results,Tryz.results8,go_sem,r0,r1,r2,r3,r4]
         ·rw [HQ.out]
          exact ⟨Io,cio,R,cR,rfl,Own.more (own_setN (own_setN (own_setN (own_setN (own_setN jI9 (w.heap.size + 1) 0 (Value.string who.1) hNK) (w.heap.size + 1) 1 (Value.string who.2) hNK) (w.heap.size + 1) 2 (Value.slice Io is.length cio) hNK) (w.heap.size + 1) 3 (Value.slice R gs.length cR) hNK) (w.heap.size + 1) 4 (Value.int .i64 nx) hNK) (by omega),Own.more (own_setN (own_setN (own_setN (own_setN (own_setN g9 (w.heap.size + 1) 0 (Value.string who.1) hNR) (w.heap.size + 1) 1 (Value.string who.2) hNR) (w.heap.size + 1) 2 (Value.slice Io is.length cio) hNR) (w.heap.size + 1) 3 (Value.slice R gs.length cR) hNR) (w.heap.size + 1) 4 (Value.int .i64 nx) hNR) (by omega),(((((k9.setCell (p:=⟨w.heap.size + 1,0,none⟩) (by show w.heap.size ≤ w.heap.size + 1; omega) (Value.string who.1)).setCell (p:=⟨w.heap.size + 1,1,none⟩) (by show w.heap.size ≤ w.heap.size + 1; omega) (Value.string who.2)).setCell (p:=⟨w.heap.size + 1,2,none⟩) (by show w.heap.size ≤ w.heap.size + 1; omega) (Value.slice Io is.length cio)).setCell (p:=⟨w.heap.size + 1,3,none⟩) (by show w.heap.size ≤ w.heap.size + 1; omega) (Value.slice R gs.length cR)).setCell (p:=⟨w.heap.size + 1,4,none⟩) (by show w.heap.size ≤ w.heap.size + 1; omega) (Value.int .i64 nx))⟩
      ·have hn1:=hwd
       clear hwd
       by_cases hwd : (line.extract 0 a) = wItem
       ·skip
        have HC:=Lib.hid (HBL1.out.trans (show casc (who,is,fs,nx) (line.extract 0 a) rs = putOf (who,is,fs,nx) rs by rw [hwd]; rfl))
        have hr5 : rs.size + 5 ≤ maxLen:=by
         have h4:=congrArg ByteArray.size hwd
         rw [ByteArray.size_extract] at h4
         have h5 : wItem.size = 4:=rfl
         unfold maxLen
         omega
        have h0 : (line.extract 0 a) ≠ wFollow:=by rw [hwd]; decide
        have y0b : ((line.extract 0 a).toList == ({ data:=#[102,111,108,108,111,119] } : ByteArray).toList) = false:=ba_ne_list h0
        have y0a : ((line.extract 0 a).toList == [102,111,108,108,111,119]) = false:=by have:=y0b; rw [show ({ data:=#[102,111,108,108,111,119] } : ByteArray).toList = [102,111,108,108,111,119] by rw [ByteArray.toList_eq]] at this; exact this
        have h1 : (line.extract 0 a) ≠ wLeave:=by rw [hwd]; decide
        have y1b : ((line.extract 0 a).toList == ({ data:=#[108,101,97,118,101] } : ByteArray).toList) = false:=ba_ne_list h1
        have y1a : ((line.extract 0 a).toList == [108,101,97,118,101]) = false:=by have:=y1b; rw [show ({ data:=#[108,101,97,118,101] } : ByteArray).toList = [108,101,97,118,101] by rw [ByteArray.toList_eq]] at this; exact this
        have h2 : (line.extract 0 a) = wItem:=hwd
        have y2b : ((line.extract 0 a).toList == ({ data:=#[105,116,101,109] } : ByteArray).toList) = true:=beq_iff_eq.2 (congrArg _ h2)
        have y2a : ((line.extract 0 a).toList == [105,116,101,109]) = true:=by have:=y2b; rw [show ({ data:=#[105,116,101,109] } : ByteArray).toList = [105,116,101,109] by rw [ByteArray.toList_eq]] at this; exact this
        have h3 : (line.extract 0 a) ≠ wGone:=by rw [hwd]; decide
        have y3b : ((line.extract 0 a).toList == ({ data:=#[103,111,110,101] } : ByteArray).toList) = false:=ba_ne_list h3
        have y3a : ((line.extract 0 a).toList == [103,111,110,101]) = false:=by have:=y3b; rw [show ({ data:=#[103,111,110,101] } : ByteArray).toList = [103,111,110,101] by rw [ByteArray.toList_eq]] at this; exact this
        clear h0 h1 h2 h3
        clear hwd HBL1
        go_wp2_with fail
        refine (specReadItem_any rs w7 hr5).mono ?_
        rintro e w8 ⟨rfl,b8⟩
        have k8:=k7.trans (b8.mono k7.size)
        have b89 : Below w8.heap.size w8 (w8.alloc (.cells #[Value.string (riOf rs).1,Value.string (riOf rs).2.1,Value.string (riOf rs).2.2.1,Value.int .i64 (riOf rs).2.2.2] 69)):=(Below.refl _ _).alloc (Nat.le_refl _) _
        have oX9 : Own (w8.alloc (.cells #[Value.string (riOf rs).1,Value.string (riOf rs).2.1,Value.string (riOf rs).2.2.1,Value.int .i64 (riOf rs).2.2.2] 69)) w8.heap.size 69 4 (some ⟨w8.heap.size,0,none⟩) 1 1 (encItem (riOf rs)):=Own.lit w8 69 4 1 #[Value.string (riOf rs).1,Value.string (riOf rs).2.1,Value.string (riOf rs).2.2.1,Value.int .i64 (riOf rs).2.2.2] (encItem (riOf rs)) (by simp only [maxLen]; omega) rfl
        have b79:=b8.trans (b89.mono b8.size)
        have k9:=k7.trans (b79.mono k7.size)
        have oB9:=Own.below oB7 b79
        have oR9:=Own.below oR7 b79
        have oS9:=Own.below oS7 b79
        have oO9:=Own.below oO7 b79
        have pI9:=Own.below pI7 b79
        have pF9:=Own.below pF7 b79
        have jF9:=Own.below jF7 b79
        go_upto_if 132 with fail
        generalize (w8.alloc (.cells #[Value.string (riOf rs).1,Value.string (riOf rs).2.1,Value.string (riOf rs).2.2.1,Value.int .i64 (riOf rs).2.2.2] 69)) = w9 at *
        cases ho : riOk rs
        ·have HQ : Hid (blR (who,is,fs,nx) line = ((who,is,fs,nx),wNo)):=Lib.hid (HC.out.trans (by unfold putOf; rw [if_neg (by rw [ho]; simp)]))
         clear ho HC
         have a0:=(show _ = some (Value.string who.1) from oS9.cell rfl (j:=0) (by omega))
         have a1:=(show _ = some (Value.string who.2) from oS9.cell rfl (j:=1) (by omega))
         have a2:=(show _ = some (Value.slice Is is.length cis) from oS9.cell rfl (j:=2) (by omega))
         have a3:=(show _ = some (Value.slice Fs fs.length cfs) from oS9.cell rfl (j:=3) (by omega))
         have a4:=(show _ = some (Value.int .i64 nx) from oS9.cell rfl (j:=4) (by omega))
         have r0:=(show _ = some (Value.string { data:=#[] }) from oR9.cell rfl (j:=0) (by omega))
         have rf0:=oR9.frozen rfl 0
         have r1:=(show _ = some (Value.string { data:=#[] }) from oR9.cell rfl (j:=1) (by omega))
         have rf1:=oR9.frozen rfl 1
         have r2:=(show _ = some (Value.slice none 0 0) from oR9.cell rfl (j:=2) (by omega))
         have rf2:=oR9.frozen rfl 2
         have r3:=(show _ = some (Value.slice none 0 0) from oR9.cell rfl (j:=3) (by omega))
         have rf3:=oR9.frozen rfl 3
         have r4:=(show _ = some (Value.int .i64 0) from oR9.cell rfl (j:=4) (by omega))
         have rf4:=oR9.frozen rfl 4
         go_wp2_with fail
         refine bodyPost_ret (v:=.tuple #[.agg #[Value.string who.1,Value.string who.2,Value.slice Is is.length cis,Value.slice Fs fs.length cfs,Value.int .i64 nx],.string { data:=#[110,111] }]) ?_ rfl ?_
         ·simp [results,Tryz.results8,go_sem,r0,r1,r2,r3,r4]
         ·rw [HQ.out]
          exact ⟨Is,cis,Fs,cfs,rfl,Own.more (own_setN (own_setN (own_setN (own_setN (own_setN pI9 (w.heap.size + 1) 0 (Value.string who.1) hNI) (w.heap.size + 1) 1 (Value.string who.2) hNI) (w.heap.size + 1) 2 (Value.slice Is is.length cis) hNI) (w.heap.size + 1) 3 (Value.slice Fs fs.length cfs) hNI) (w.heap.size + 1) 4 (Value.int .i64 nx) hNI) (by omega),Own.more (own_setN (own_setN (own_setN (own_setN (own_setN pF9 (w.heap.size + 1) 0 (Value.string who.1) hNF) (w.heap.size + 1) 1 (Value.string who.2) hNF) (w.heap.size + 1) 2 (Value.slice Is is.length cis) hNF) (w.heap.size + 1) 3 (Value.slice Fs fs.length cfs) hNF) (w.heap.size + 1) 4 (Value.int .i64 nx) hNF) (by omega),(((((k9.setCell (p:=⟨w.heap.size + 1,0,none⟩) (by show w.heap.size ≤ w.heap.size + 1; omega) (Value.string who.1)).setCell (p:=⟨w.heap.size + 1,1,none⟩) (by show w.heap.size ≤ w.heap.size + 1; omega) (Value.string who.2)).setCell (p:=⟨w.heap.size + 1,2,none⟩) (by show w.heap.size ≤ w.heap.size + 1; omega) (Value.slice Is is.length cis)).setCell (p:=⟨w.heap.size + 1,3,none⟩) (by show w.heap.size ≤ w.heap.size + 1; omega) (Value.slice Fs fs.length cfs)).setCell (p:=⟨w.heap.size + 1,4,none⟩) (by show w.heap.size ≤ w.heap.size + 1; omega) (Value.int .i64 nx))⟩
        ·have hX:=fd_one (riOf_valid ho)
         have HPX : Hid (blR (who,is,fs,nx) line = if (mfOf is [riOf rs]).length = 0 then ((who,is,fs,nx),wNo) else tellOf (who,is,fs,nx) (mfOf is [riOf rs])):=Lib.hid (HC.out.trans (by unfold putOf; rw [if_pos ho]))
         clear ho HC
         generalize riOf rs = x at *
         have a0:=(show _ = some (Value.string who.1) from oB9.cell rfl (j:=0) (by omega))
         have a1:=(show _ = some (Value.string who.2) from oB9.cell rfl (j:=1) (by omega))
         have a2:=(show _ = some (Value.slice I is.length ci) from oB9.cell rfl (j:=2) (by omega))
         have a3:=(show _ = some (Value.slice F fs.length cf) from oB9.cell rfl (j:=3) (by omega))
         have a4:=(show _ = some (Value.int .i64 nx) from oB9.cell rfl (j:=4) (by omega))
         have x0:=(show _ = some (Value.string x.1) from oX9.cell rfl (j:=0) (by omega))
         have x1:=(show _ = some (Value.string x.2.1) from oX9.cell rfl (j:=1) (by omega))
         have x2:=(show _ = some (Value.string x.2.2.1) from oX9.cell rfl (j:=2) (by omega))
         have x3:=(show _ = some (Value.int .i64 x.2.2.2) from oX9.cell rfl (j:=3) (by omega))
         have oXl : OwnE 4 encItem 69 (w9.alloc (.cells #[Value.string x.1,Value.string x.2.1,Value.string x.2.2.1,Value.int .i64 x.2.2.2] 69)) w9.heap.size (some ⟨w9.heap.size,0,none⟩) 1 [x]:=Own.lit w9 69 4 1 #[Value.string x.1,Value.string x.2.1,Value.string x.2.2.1,Value.int .i64 x.2.2.2] (cE 4 encItem [x]) (by simp only [maxLen]; omega) rfl
         have b9a : Below w9.heap.size w9 (w9.alloc (.cells #[Value.string x.1,Value.string x.2.1,Value.string x.2.2.1,Value.int .i64 x.2.2.2] 69)):=(Below.refl _ _).alloc (Nat.le_refl _) _
         have ka:=k9.trans (b9a.mono k9.size)
         have zka:=ka.size
         have oBa:=Own.below oB9 b9a
         have oRa:=Own.below oR9 b9a
         have oSa:=Own.below oS9 b9a
         have oOa:=Own.below oO9 b9a
         have pIa:=Own.below pI9 b9a
         have pFa:=Own.below pF9 b9a
         have jFa:=Own.below jF9 b9a
         go_wp2_with fail
         generalize (w9.alloc (.cells #[Value.string x.1,Value.string x.2.1,Value.string x.2.2.1,Value.int .i64 x.2.2.2] 69)) = wa at *
         refine (specMergeFeeds_any I ci (some ⟨w9.heap.size,0,none⟩) 1 wa.heap.size is [x] wa ((hI.below (ka.mono hB)).more (Nat.le_trans hB ka.size)) (OwnE.rd oXl) (Nat.le_refl _) HIV.out hX).mono ?_
         rintro e wb ⟨R,cR,rfl,mb,bb_⟩
         have kb:=ka.trans (bb_.mono ka.size)
         have hM:=mfOf_fd HIV.out hX
         have hML:=mf_len is [x]
         generalize mfOf is [x] = ms at *
         have oBb:=Own.below oBa bb_
         have oRb:=Own.below oRa bb_
         have oSb:=Own.below oSa bb_
         have oOb:=Own.below oOa bb_
         have pIb:=Own.below pIa bb_
         have pFb:=Own.below pFa bb_
         have jFb:=Own.below jFa bb_
         clear a0 a1 a2 a3 a4 x0 x1 x2 x3
         have hoC:=oOb.cell rfl (j:=2) (by omega)
         have sO:=Own.set oOb rfl (j:=2) (Value.slice R ms.length cR)
         have fzO:=oOb.frozen rfl 2
         have oOc:=sO.1
         have kc:=kb.setCell (p:=⟨w4.heap.size,2,none⟩) zk4 (Value.slice R ms.length cR)
         have oRc:=own_setN oRb w4.heap.size 2 (Value.slice R ms.length cR) (fun b hb => by simp [blk] at hb; omega)
         have oBc:=own_setN oBb w4.heap.size 2 (Value.slice R ms.length cR) (fun b hb => by simp [blk] at hb; omega)
         have oSc:=own_setN oSb w4.heap.size 2 (Value.slice R ms.length cR) (fun b hb => by simp [blk] at hb; omega)
         have pIc:=own_setN pIb w4.heap.size 2 (Value.slice R ms.length cR) (fun b hb e => own_ne pIb oOb (by decide) b hb (by rw [e]; rfl))
         have pFc:=own_setN pFb w4.heap.size 2 (Value.slice R ms.length cR) (fun b hb e => own_ne pFb oOb (by decide) b hb (by rw [e]; rfl))
         have jFc:=own_setN jFb w4.heap.size 2 (Value.slice R ms.length cR) (fun b hb e => own_ne jFb oOb (by decide) b hb (by rw [e]; rfl))
         have mc:=own_setN mb w4.heap.size 2 (Value.slice R ms.length cR) (fun b hb e => own_ne mb oOb (by decide) b hb (by rw [e]; rfl))
         go_upto_region 40 with fail
         clear hoC fzO
         generalize (wb.setCell ⟨w4.heap.size,2,none⟩ (Value.slice R ms.length cR)) = wc2 at *
         have a0:=(show _ = some (Value.string who.1) from oBc.cell rfl (j:=0) (by omega))
         have a1:=(show _ = some (Value.string who.2) from oBc.cell rfl (j:=1) (by omega))
         have a2:=(show _ = some (Value.slice I is.length ci) from oBc.cell rfl (j:=2) (by omega))
         have a3:=(show _ = some (Value.slice F fs.length cf) from oBc.cell rfl (j:=3) (by omega))
         have a4:=(show _ = some (Value.int .i64 nx) from oBc.cell rfl (j:=4) (by omega))
         have d0:=(show _ = some (Value.string who.1) from oOc.cell rfl (j:=0) (by omega))
         have d1:=(show _ = some (Value.string who.2) from oOc.cell rfl (j:=1) (by omega))
         have d2:=(show _ = some (Value.slice R ms.length cR) from oOc.cell rfl (j:=2) (by omega))
         have d3:=(show _ = some (Value.slice Fo fs.length cfo) from oOc.cell rfl (j:=3) (by omega))
         have d4:=(show _ = some (Value.int .i64 nx) from oOc.cell rfl (j:=4) (by omega))
         by_cases hz : ms.length = 0
         ·have HQ:=Lib.hid (HPX.out.trans (if_pos hz))
          have f2 : (((ms.length : Nat) : Int) == 0) = true:=by rw [hz]; rfl
          by_cases hl0 : ms.length < is.length
          ·have f1 : decide ((ms.length : Int) < (is.length : Int)) = true:=decide_eq_true (by omega)
           have f1n : decide (ms.length < is.length) = true:=decide_eq_true hl0
           clear hz hl0
           have a0:=(show _ = some (Value.string who.1) from oSc.cell rfl (j:=0) (by omega))
           have a1:=(show _ = some (Value.string who.2) from oSc.cell rfl (j:=1) (by omega))
           have a2:=(show _ = some (Value.slice Is is.length cis) from oSc.cell rfl (j:=2) (by omega))
           have a3:=(show _ = some (Value.slice Fs fs.length cfs) from oSc.cell rfl (j:=3) (by omega))
           have a4:=(show _ = some (Value.int .i64 nx) from oSc.cell rfl (j:=4) (by omega))
           have r0:=(show _ = some (Value.string { data:=#[] }) from oRc.cell rfl (j:=0) (by omega))
           have rf0:=oRc.frozen rfl 0
           have r1:=(show _ = some (Value.string { data:=#[] }) from oRc.cell rfl (j:=1) (by omega))
           have rf1:=oRc.frozen rfl 1
           have r2:=(show _ = some (Value.slice none 0 0) from oRc.cell rfl (j:=2) (by omega))
           have rf2:=oRc.frozen rfl 2
           have r3:=(show _ = some (Value.slice none 0 0) from oRc.cell rfl (j:=3) (by omega))
           have rf3:=oRc.frozen rfl 3
           have r4:=(show _ = some (Value.int .i64 0) from oRc.cell rfl (j:=4) (by omega))
           have rf4:=oRc.frozen rfl 4
           go_wp2_with fail
           refine bodyPost_ret (v:=.tuple #[.agg #[Value.string who.1,Value.string who.2,Value.slice Is is.length cis,Value.slice Fs fs.length cfs,Value.int .i64 nx],.string { data:=#[110,111] }]) ?_ rfl ?_
           ·simp [results,Tryz.results8,go_sem,r0,r1,r2,r3,r4]
           ·rw [HQ.out]
            exact ⟨Is,cis,Fs,cfs,rfl,Own.more (own_setN (own_setN (own_setN (own_setN (own_setN pIc (w.heap.size + 1) 0 (Value.string who.1) hNI) (w.heap.size + 1) 1 (Value.string who.2) hNI) (w.heap.size + 1) 2 (Value.slice Is is.length cis) hNI) (w.heap.size + 1) 3 (Value.slice Fs fs.length cfs) hNI) (w.heap.size + 1) 4 (Value.int .i64 nx) hNI) (by omega),Own.more (own_setN (own_setN (own_setN (own_setN (own_setN pFc (w.heap.size + 1) 0 (Value.string who.1) hNF) (w.heap.size + 1) 1 (Value.string who.2) hNF) (w.heap.size + 1) 2 (Value.slice Is is.length cis) hNF) (w.heap.size + 1) 3 (Value.slice Fs fs.length cfs) hNF) (w.heap.size + 1) 4 (Value.int .i64 nx) hNF) (by omega),(((((kc.setCell (p:=⟨w.heap.size + 1,0,none⟩) (by show w.heap.size ≤ w.heap.size + 1; omega) (Value.string who.1)).setCell (p:=⟨w.heap.size + 1,1,none⟩) (by show w.heap.size ≤ w.heap.size + 1; omega) (Value.string who.2)).setCell (p:=⟨w.heap.size + 1,2,none⟩) (by show w.heap.size ≤ w.heap.size + 1; omega) (Value.slice Is is.length cis)).setCell (p:=⟨w.heap.size + 1,3,none⟩) (by show w.heap.size ≤ w.heap.size + 1; omega) (Value.slice Fs fs.length cfs)).setCell (p:=⟨w.heap.size + 1,4,none⟩) (by show w.heap.size ≤ w.heap.size + 1; omega) (Value.int .i64 nx))⟩
          ·have f1 : decide ((ms.length : Int) < (is.length : Int)) = false:=decide_eq_false (by omega)
           have f1n : decide (ms.length < is.length) = false:=decide_eq_false hl0
           clear hz hl0
           have a0:=(show _ = some (Value.string who.1) from oSc.cell rfl (j:=0) (by omega))
           have a1:=(show _ = some (Value.string who.2) from oSc.cell rfl (j:=1) (by omega))
           have a2:=(show _ = some (Value.slice Is is.length cis) from oSc.cell rfl (j:=2) (by omega))
           have a3:=(show _ = some (Value.slice Fs fs.length cfs) from oSc.cell rfl (j:=3) (by omega))
           have a4:=(show _ = some (Value.int .i64 nx) from oSc.cell rfl (j:=4) (by omega))
           have r0:=(show _ = some (Value.string { data:=#[] }) from oRc.cell rfl (j:=0) (by omega))
           have rf0:=oRc.frozen rfl 0
           have r1:=(show _ = some (Value.string { data:=#[] }) from oRc.cell rfl (j:=1) (by omega))
           have rf1:=oRc.frozen rfl 1
           have r2:=(show _ = some (Value.slice none 0 0) from oRc.cell rfl (j:=2) (by omega))
           have rf2:=oRc.frozen rfl 2
           have r3:=(show _ = some (Value.slice none 0 0) from oRc.cell rfl (j:=3) (by omega))
           have rf3:=oRc.frozen rfl 3
           have r4:=(show _ = some (Value.int .i64 0) from oRc.cell rfl (j:=4) (by omega))
           have rf4:=oRc.frozen rfl 4
           go_wp2_with fail
           refine bodyPost_ret (v:=.tuple #[.agg #[Value.string who.1,Value.string who.2,Value.slice Is is.length cis,Value.slice Fs fs.length cfs,Value.int .i64 nx],.string { data:=#[110,111] }]) ?_ rfl ?_
           ·simp [results,Tryz.results8,go_sem,r0,r1,r2,r3,r4]
           ·rw [HQ.out]
            exact ⟨Is,cis,Fs,cfs,rfl,Own.more (own_setN (own_setN (own_setN (own_setN (own_setN pIc (w.heap.size + 1) 0 (Value.string who.1) hNI) (w.heap.size + 1) 1 (Value.string who.2) hNI) (w.heap.size + 1) 2 (Value.slice Is is.length cis) hNI) (w.heap.size + 1) 3 (Value.slice Fs fs.length cfs) hNI) (w.heap.size + 1) 4 (Value.int .i64 nx) hNI) (by omega),Own.more (own_setN (own_setN (own_setN (own_setN (own_setN pFc (w.heap.size + 1) 0 (Value.string who.1) hNF) (w.heap.size + 1) 1 (Value.string who.2) hNF) (w.heap.size + 1) 2 (Value.slice Is is.length cis) hNF) (w.heap.size + 1) 3 (Value.slice Fs fs.length cfs) hNF) (w.heap.size + 1) 4 (Value.int .i64 nx) hNF) (by omega),(((((kc.setCell (p:=⟨w.heap.size + 1,0,none⟩) (by show w.heap.size ≤ w.heap.size + 1; omega) (Value.string who.1)).setCell (p:=⟨w.heap.size + 1,1,none⟩) (by show w.heap.size ≤ w.heap.size + 1; omega) (Value.string who.2)).setCell (p:=⟨w.heap.size + 1,2,none⟩) (by show w.heap.size ≤ w.heap.size + 1; omega) (Value.slice Is is.length cis)).setCell (p:=⟨w.heap.size + 1,3,none⟩) (by show w.heap.size ≤ w.heap.size + 1; omega) (Value.slice Fs fs.length cfs)).setCell (p:=⟨w.heap.size + 1,4,none⟩) (by show w.heap.size ≤ w.heap.size + 1; omega) (Value.int .i64 nx))⟩
         ·have HPQ:=Lib.hid (HPX.out.trans (if_neg hz))
          have f2 : (((ms.length : Nat) : Int) == 0) = false:=by rw [beq_eq_false_iff_ne]; omega
          have f1 : decide ((ms.length : Int) < (is.length : Int)) = false:=decide_eq_false (by have:=hML (by omega); omega)
          have f1n : decide (ms.length < is.length) = false:=decide_eq_false (by have:=hML (by omega); omega)
          clear hz hML HPX
          go_upto_region 51 with fail
          clear f1 f1n f2 a0 a1 a2 a3 a4 d0 d1 d2 d3 d4
          obtain ⟨w20,rfl⟩ : ∃ w20 : World,w20 = wc2:=⟨_,rfl⟩
          have oB20:=oBc
          have oR20:=oRc
          have oS20:=oSc
          have oO20:=oOc
          have pI20:=pIc
          have pF20:=pFc
          have jF20:=jFc
          have m20:=mc
          have k20:=kc
          clear oBc oRc oSc oOc pIc pFc jFc mc kc
          have a0:=(show _ = some (Value.string who.1) from oB20.cell rfl (j:=0) (by omega))
          have a1:=(show _ = some (Value.string who.2) from oB20.cell rfl (j:=1) (by omega))
          have a2:=(show _ = some (Value.slice I is.length ci) from oB20.cell rfl (j:=2) (by omega))
          have a3:=(show _ = some (Value.slice F fs.length cf) from oB20.cell rfl (j:=3) (by omega))
          have a4:=(show _ = some (Value.int .i64 nx) from oB20.cell rfl (j:=4) (by omega))
          have d0:=(show _ = some (Value.string who.1) from oO20.cell rfl (j:=0) (by omega))
          have d1:=(show _ = some (Value.string who.2) from oO20.cell rfl (j:=1) (by omega))
          have d2:=(show _ = some (Value.slice R ms.length cR) from oO20.cell rfl (j:=2) (by omega))
          have d3:=(show _ = some (Value.slice Fo fs.length cfo) from oO20.cell rfl (j:=3) (by omega))
          have d4:=(show _ = some (Value.int .i64 nx) from oO20.cell rfl (j:=4) (by omega))
          go_wp2_with fail
          refine (specTellChanges_any who nx I ci R cR w20.heap.size is ms w20 ((hI.below (k20.mono hB)).more (Nat.le_trans hB k20.size)) (OwnE.rd m20) (Nat.le_refl _) HIV.out hM HW.out HN.out).mono ?_
          rintro e wt ⟨T,cT,rfl,oTt,bt⟩
          have kt:=k20.trans (bt.mono k20.size)
          have oBt:=Own.below oB20 bt
          have oRt:=Own.below oR20 bt
          have oSt:=Own.below oS20 bt
          have oOt:=Own.below oO20 bt
          have pIt:=Own.below pI20 bt
          have pFt:=Own.below pF20 bt
          have jFt:=Own.below jF20 bt
          have mt:=Own.below m20 bt
          clear a0 d0 a1 d1 a2 d2 a3 d3 a4 d4
          have HTL : Hid ((tcOf who nx is ms).length = (tcK is ms).length):=Lib.hid (acts_len _ _ _)
          by_cases ht : (tcK is ms).length = 0
          ·have HQ : Hid (blR (who,is,fs,nx) line = ((who,is,fs,nx),wSame)):=Lib.hid (HPQ.out.trans (by unfold tellOf; rw [if_pos ht]))
           have e0 : ((((tcOf who nx is ms).length : Nat) : Int) == 0) = true:=by rw [HTL.out,ht]; rfl
           clear ht
           have a0:=(show _ = some (Value.string who.1) from oSt.cell rfl (j:=0) (by omega))
           have a1:=(show _ = some (Value.string who.2) from oSt.cell rfl (j:=1) (by omega))
           have a2:=(show _ = some (Value.slice Is is.length cis) from oSt.cell rfl (j:=2) (by omega))
           have a3:=(show _ = some (Value.slice Fs fs.length cfs) from oSt.cell rfl (j:=3) (by omega))
           have a4:=(show _ = some (Value.int .i64 nx) from oSt.cell rfl (j:=4) (by omega))
           have r0:=(show _ = some (Value.string { data:=#[] }) from oRt.cell rfl (j:=0) (by omega))
           have rf0:=oRt.frozen rfl 0
           have r1:=(show _ = some (Value.string { data:=#[] }) from oRt.cell rfl (j:=1) (by omega))
           have rf1:=oRt.frozen rfl 1
           have r2:=(show _ = some (Value.slice none 0 0) from oRt.cell rfl (j:=2) (by omega))
           have rf2:=oRt.frozen rfl 2
           have r3:=(show _ = some (Value.slice none 0 0) from oRt.cell rfl (j:=3) (by omega))
           have rf3:=oRt.frozen rfl 3
           have r4:=(show _ = some (Value.int .i64 0) from oRt.cell rfl (j:=4) (by omega))
           have rf4:=oRt.frozen rfl 4
           go_wp2_with fail
           refine bodyPost_ret (v:=.tuple #[.agg #[Value.string who.1,Value.string who.2,Value.slice Is is.length cis,Value.slice Fs fs.length cfs,Value.int .i64 nx],.string { data:=#[115,97,109,101] }]) ?_ rfl ?_
           ·simp [results,Tryz.results8,go_sem,r0,r1,r2,r3,r4]
           ·rw [HQ.out]
            exact ⟨Is,cis,Fs,cfs,rfl,Own.more (own_setN (own_setN (own_setN (own_setN (own_setN pIt (w.heap.size + 1) 0 (Value.string who.1) hNI) (w.heap.size + 1) 1 (Value.string who.2) hNI) (w.heap.size + 1) 2 (Value.slice Is is.length cis) hNI) (w.heap.size + 1) 3 (Value.slice Fs fs.length cfs) hNI) (w.heap.size + 1) 4 (Value.int .i64 nx) hNI) (by omega),Own.more (own_setN (own_setN (own_setN (own_setN (own_setN pFt (w.heap.size + 1) 0 (Value.string who.1) hNF) (w.heap.size + 1) 1 (Value.string who.2) hNF) (w.heap.size + 1) 2 (Value.slice Is is.length cis) hNF) (w.heap.size + 1) 3 (Value.slice Fs fs.length cfs) hNF) (w.heap.size + 1) 4 (Value.int .i64 nx) hNF) (by omega),(((((kt.setCell (p:=⟨w.heap.size + 1,0,none⟩) (by show w.heap.size ≤ w.heap.size + 1; omega) (Value.string who.1)).setCell (p:=⟨w.heap.size + 1,1,none⟩) (by show w.heap.size ≤ w.heap.size + 1; omega) (Value.string who.2)).setCell (p:=⟨w.heap.size + 1,2,none⟩) (by show w.heap.size ≤ w.heap.size + 1; omega) (Value.slice Is is.length cis)).setCell (p:=⟨w.heap.size + 1,3,none⟩) (by show w.heap.size ≤ w.heap.size + 1; omega) (Value.slice Fs fs.length cfs)).setCell (p:=⟨w.heap.size + 1,4,none⟩) (by show w.heap.size ≤ w.heap.size + 1; omega) (Value.int .i64 nx))⟩
          ·have e0 : ((((tcOf who nx is ms).length : Nat) : Int) == 0) = false:=by rw [HTL.out,beq_eq_false_iff_ne]; omega
           obtain ⟨cc,key,hc6,hg0,hac⟩:=told_ac HW.out HIV.out hM HN.out (by omega : 0 < (tcK is ms).length)
           have hTp : 0 < (tcOf who nx is ms).length:=by rw [HTL.out]; omega
           have a0:=(show _ = some (Value.string who.1) from oBt.cell rfl (j:=0) (by omega))
           have a1:=(show _ = some (Value.string who.2) from oBt.cell rfl (j:=1) (by omega))
           have a2:=(show _ = some (Value.slice I is.length ci) from oBt.cell rfl (j:=2) (by omega))
           have a3:=(show _ = some (Value.slice F fs.length cf) from oBt.cell rfl (j:=3) (by omega))
           have a4:=(show _ = some (Value.int .i64 nx) from oBt.cell rfl (j:=4) (by omega))
           have d4:=(show _ = some (Value.int .i64 nx) from oOt.cell rfl (j:=4) (by omega))
           have sO:=Own.set oOt rfl (j:=4) (Value.int .i64 (nx + 1))
           have fzO:=oOt.frozen rfl 4
           have oOu:=sO.1
           have ku:=kt.setCell (p:=⟨w4.heap.size,4,none⟩) zk4 (Value.int .i64 (nx + 1))
           have oRu:=own_setN oRt w4.heap.size 4 (Value.int .i64 (nx + 1)) (fun b hb => by simp [blk] at hb; omega)
           have oBu:=own_setN oBt w4.heap.size 4 (Value.int .i64 (nx + 1)) (fun b hb => by simp [blk] at hb; omega)
           have oSu:=own_setN oSt w4.heap.size 4 (Value.int .i64 (nx + 1)) (fun b hb => by simp [blk] at hb; omega)
           have pIu:=own_setN pIt w4.heap.size 4 (Value.int .i64 (nx + 1)) (fun b hb e => own_ne pIt oOt (by decide) b hb (by rw [e]; rfl))
           have pFu:=own_setN pFt w4.heap.size 4 (Value.int .i64 (nx + 1)) (fun b hb e => own_ne pFt oOt (by decide) b hb (by rw [e]; rfl))
           have jFu:=own_setN jFt w4.heap.size 4 (Value.int .i64 (nx + 1)) (fun b hb e => own_ne jFt oOt (by decide) b hb (by rw [e]; rfl))
           have mu:=own_setN mt w4.heap.size 4 (Value.int .i64 (nx + 1)) (fun b hb e => own_ne mt oOt (by decide) b hb (by rw [e]; rfl))
           have oTu:=own_setN oTt w4.heap.size 4 (Value.int .i64 (nx + 1)) (fun b hb e => own_ne oTt oOt (by decide) b hb (by rw [e]; rfl))
           go_upto_region 55 with fail
           clear fzO d4 a0 a1 a2 a3 a4
           generalize (wt.setCell ⟨w4.heap.size,4,none⟩ (Value.int .i64 (nx + 1))) = wu at *
           have d0:=(show _ = some (Value.string who.1) from oOu.cell rfl (j:=0) (by omega))
           have d1:=(show _ = some (Value.string who.2) from oOu.cell rfl (j:=1) (by omega))
           have d2:=(show _ = some (Value.slice R ms.length cR) from oOu.cell rfl (j:=2) (by omega))
           have d3:=(show _ = some (Value.slice Fo fs.length cfo) from oOu.cell rfl (j:=3) (by omega))
           have d4:=(show _ = some (Value.int .i64 (nx + 1)) from oOu.cell rfl (j:=4) (by omega))
           have hmz:=fd_len hM
           go_wp2_with fail
           refine (specBridgeValid_any who R cR ms Fo cfo fs (nx + 1) wu wu.heap.size (OwnE.rd mu) (OwnE.rd jFu) (Nat.le_refl _) (by omega) (by omega) (fd_sz hM) (fv_sz HFV.out) hw0 hw1).mono ?_
           rintro e wv ⟨rfl,bv⟩
           have kv:=ku.trans (bv.mono ku.size)
           have oRv:=Own.below oRu bv
           have oSv:=Own.below oSu bv
           have oOv:=Own.below oOu bv
           have pIv:=Own.below pIu bv
           have pFv:=Own.below pFu bv
           have jFv:=Own.below jFu bv
           have oTv:=Own.below oTu bv
           have mv:=Own.below mu bv
           clear d0 d1 d2 d3 d4
           cases hbv : brB who ms fs (nx + 1)
           ·have HQ : Hid (blR (who,is,fs,nx) line = ((who,is,fs,nx),wNo)):=Lib.hid (HPQ.out.trans (by unfold tellOf; rw [if_neg ht,if_neg (by rw [hbv]; simp)]))
            clear ht hbv
            have a0:=(show _ = some (Value.string who.1) from oSv.cell rfl (j:=0) (by omega))
            have a1:=(show _ = some (Value.string who.2) from oSv.cell rfl (j:=1) (by omega))
            have a2:=(show _ = some (Value.slice Is is.length cis) from oSv.cell rfl (j:=2) (by omega))
            have a3:=(show _ = some (Value.slice Fs fs.length cfs) from oSv.cell rfl (j:=3) (by omega))
            have a4:=(show _ = some (Value.int .i64 nx) from oSv.cell rfl (j:=4) (by omega))
            have r0:=(show _ = some (Value.string { data:=#[] }) from oRv.cell rfl (j:=0) (by omega))
            have rf0:=oRv.frozen rfl 0
            have r1:=(show _ = some (Value.string { data:=#[] }) from oRv.cell rfl (j:=1) (by omega))
            have rf1:=oRv.frozen rfl 1
            have r2:=(show _ = some (Value.slice none 0 0) from oRv.cell rfl (j:=2) (by omega))
            have rf2:=oRv.frozen rfl 2
            have r3:=(show _ = some (Value.slice none 0 0) from oRv.cell rfl (j:=3) (by omega))
            have rf3:=oRv.frozen rfl 3
            have r4:=(show _ = some (Value.int .i64 0) from oRv.cell rfl (j:=4) (by omega))
            have rf4:=oRv.frozen rfl 4
            go_wp2_with fail
            refine bodyPost_ret (v:=.tuple #[.agg #[Value.string who.1,Value.string who.2,Value.slice Is is.length cis,Value.slice Fs fs.length cfs,Value.int .i64 nx],.string { data:=#[110,111] }]) ?_ rfl ?_
            ·simp [results,Tryz.results8,go_sem,r0,r1,r2,r3,r4]
            ·rw [HQ.out]
             exact ⟨Is,cis,Fs,cfs,rfl,Own.more (own_setN (own_setN (own_setN (own_setN (own_setN pIv (w.heap.size + 1) 0 (Value.string who.1) hNI) (w.heap.size + 1) 1 (Value.string who.2) hNI) (w.heap.size + 1) 2 (Value.slice Is is.length cis) hNI) (w.heap.size + 1) 3 (Value.slice Fs fs.length cfs) hNI) (w.heap.size + 1) 4 (Value.int .i64 nx) hNI) (by omega),Own.more (own_setN (own_setN (own_setN (own_setN (own_setN pFv (w.heap.size + 1) 0 (Value.string who.1) hNF) (w.heap.size + 1) 1 (Value.string who.2) hNF) (w.heap.size + 1) 2 (Value.slice Is is.length cis) hNF) (w.heap.size + 1) 3 (Value.slice Fs fs.length cfs) hNF) (w.heap.size + 1) 4 (Value.int .i64 nx) hNF) (by omega),(((((kv.setCell (p:=⟨w.heap.size + 1,0,none⟩) (by show w.heap.size ≤ w.heap.size + 1; omega) (Value.string who.1)).setCell (p:=⟨w.heap.size + 1,1,none⟩) (by show w.heap.size ≤ w.heap.size + 1; omega) (Value.string who.2)).setCell (p:=⟨w.heap.size + 1,2,none⟩) (by show w.heap.size ≤ w.heap.size + 1; omega) (Value.slice Is is.length cis)).setCell (p:=⟨w.heap.size + 1,3,none⟩) (by show w.heap.size ≤ w.heap.size + 1; omega) (Value.slice Fs fs.length cfs)).setCell (p:=⟨w.heap.size + 1,4,none⟩) (by show w.heap.size ≤ w.heap.size + 1; omega) (Value.int .i64 nx))⟩
           ·have HQ : Hid (blR (who,is,fs,nx) line = ((who,ms,fs,nx + 1),acOf cc nx who key)):=Lib.hid (HPQ.out.trans (by
               unfold tellOf
               rw [if_neg ht,if_pos hbv,hg0]
               rfl))
            clear ht hbv
            obtain ⟨bT,hbT⟩ : ∃ b,T = some ⟨b,0,none⟩:=by
             rcases Own.shape oTv with ⟨_,h0,_⟩ | ⟨b,h1,_⟩
             ·omega
             ·exact ⟨b,h1⟩
            have zT : bT < wv.heap.size:=(oTv.lt (b:=bT) (by rw [hbT]; rfl)).2
            have t0 : wv.cell? ⟨bT,0,none⟩ = some (Value.int .i64 (cc : Int)):=by have:=Own.cell oTv hbT (j:=0 * 5 + 0) (by omega); rw [cE_at encAct _ 0 (by omega),hg0,Nat.zero_mul,Nat.zero_add] at this; exact this
            have t1 : wv.cell? ⟨bT,1,none⟩ = some (Value.int .i64 nx):=by have:=Own.cell oTv hbT (j:=0 * 5 + 1) (by omega); rw [cE_at encAct _ 0 (by omega),hg0,Nat.zero_mul,Nat.zero_add] at this; exact this
            have t2 : wv.cell? ⟨bT,2,none⟩ = some (Value.string who.1):=by have:=Own.cell oTv hbT (j:=0 * 5 + 2) (by omega); rw [cE_at encAct _ 0 (by omega),hg0,Nat.zero_mul,Nat.zero_add] at this; exact this
            have t3 : wv.cell? ⟨bT,3,none⟩ = some (Value.string who.2):=by have:=Own.cell oTv hbT (j:=0 * 5 + 3) (by omega); rw [cE_at encAct _ 0 (by omega),hg0,Nat.zero_mul,Nat.zero_add] at this; exact this
            have t4 : wv.cell? ⟨bT,4,none⟩ = some (Value.string key):=by have:=Own.cell oTv hbT (j:=0 * 5 + 4) (by omega); rw [cE_at encAct _ 0 (by omega),hg0,Nat.zero_mul,Nat.zero_add] at this; exact this
            have d0:=(show _ = some (Value.string who.1) from oOv.cell rfl (j:=0) (by omega))
            have d1:=(show _ = some (Value.string who.2) from oOv.cell rfl (j:=1) (by omega))
            have d2:=(show _ = some (Value.slice R ms.length cR) from oOv.cell rfl (j:=2) (by omega))
            have d3:=(show _ = some (Value.slice Fo fs.length cfo) from oOv.cell rfl (j:=3) (by omega))
            have d4:=(show _ = some (Value.int .i64 (nx + 1)) from oOv.cell rfl (j:=4) (by omega))
            have zOv:=(oOv.lt (b:=w4.heap.size) rfl).2
            subst hbT
            have HAC:=Lib.hid (fun (z : World) => specActivityText_any cc nx who key z hc6 hac)
            clear hac hg0
            go_wp2_with fail
            refine wp_region_makes 5 [(isS (.agg #[Value.string who.1,Value.string who.2,Value.slice R ms.length cR,Value.slice Fo fs.length cfo,Value.int .i64 (nx + 1)])),(isS (.slice (some ⟨bT,0,none⟩) (tcOf who nx is ms).length cT)),(isS (.pointer (some ⟨bT,0,none⟩))),(isS (.agg #[Value.int .i64 (cc : Int),Value.int .i64 nx,Value.string who.1,Value.string who.2,Value.string key])),(isS (.string (acOf cc nx who key)))] [0,0,0,0,0] (by kernel_rfl) (by kernel_rfl) (by rfl) (by rfl) (by rfl) ?_ ?_ ?_
            ·repeat (first | exact stbB_nil | refine stbB_cons (isS_stb _) ?_)
            ·simp only [List.take_succ_cons,List.take_zero]
             refine looseSteps_cons (fun k a' w' hk0' hk1' hR hG hkp hd => ?_) ?_
             ·have hR0 : Below wv.drew.heap.size wv.drew w':=hR
              have hRb : Below wv.heap.size wv w':=⟨hR0.os,hR0.tape,hR0.output,hR0.size,hR0.block⟩
              have k7' : a'.tmps.getD 7 undef = .pointer (some ⟨w4.heap.size,0,none⟩):=hkp 7 (by rfl)
              have rr0:=(hRb.cell (p:=⟨w4.heap.size,0,none⟩) (by exact zOv)).trans d0
              have rr1:=(hRb.cell (p:=⟨w4.heap.size,1,none⟩) (by exact zOv)).trans d1
              have rr2:=(hRb.cell (p:=⟨w4.heap.size,2,none⟩) (by exact zOv)).trans d2
              have rr3:=(hRb.cell (p:=⟨w4.heap.size,3,none⟩) (by exact zOv)).trans d3
              have rr4:=(hRb.cell (p:=⟨w4.heap.size,4,none⟩) (by exact zOv)).trans d4
              unfold looseRun
              go_simp
              exact ⟨Below.refl _ _,trivial,rfl⟩
             refine looseSteps_cons (fun k a' w' hk0' hk1' hR hG hkp hd => ?_) ?_
             ·have hR0 : Below wv.drew.heap.size wv.drew w':=hR
              have hRb : Below wv.heap.size wv w':=⟨hR0.os,hR0.tape,hR0.output,hR0.size,hR0.block⟩
              have k21' : a'.tmps.getD 21 undef = .slice (some ⟨bT,0,none⟩) (tcOf who nx is ms).length cT:=hkp 21 (by rfl)
              unfold looseRun
              go_simp
              exact ⟨Below.refl _ _,trivial,rfl⟩
             refine looseSteps_cons (fun k a' w' hk0' hk1' hR hG hkp hd => ?_) ?_
             ·have hR0 : Below wv.drew.heap.size wv.drew w':=hR
              have hRb : Below wv.heap.size wv w':=⟨hR0.os,hR0.tape,hR0.output,hR0.size,hR0.block⟩
              have e1:=hd.1 rfl
              have e1' : a'.tmps.getD 219 undef = _:=e1
              have e1q:=e1'
              rw [Array.getD_eq_getD_getElem?] at e1q
              have hTi : (0 : Int) < ((tcOf who nx is ms).length : Int):=by omega
              unfold looseRun
              go_simp
              try rw [if_pos hTp]
              exact ⟨Below.refl _ _,trivial,rfl⟩
             refine looseSteps_cons (fun k a' w' hk0' hk1' hR hG hkp hd => ?_) ?_
             ·have hR0 : Below wv.drew.heap.size wv.drew w':=hR
              have hRb : Below wv.heap.size wv w':=⟨hR0.os,hR0.tape,hR0.output,hR0.size,hR0.block⟩
              have e1:=hd.1 rfl
              have e1' : a'.tmps.getD 220 undef = _:=e1
              have e1q:=e1'
              rw [Array.getD_eq_getD_getElem?] at e1q
              have rr0:=(hRb.cell (p:=⟨bT,0,none⟩) (by exact zT)).trans t0
              have rr1:=(hRb.cell (p:=⟨bT,1,none⟩) (by exact zT)).trans t1
              have rr2:=(hRb.cell (p:=⟨bT,2,none⟩) (by exact zT)).trans t2
              have rr3:=(hRb.cell (p:=⟨bT,3,none⟩) (by exact zT)).trans t3
              have rr4:=(hRb.cell (p:=⟨bT,4,none⟩) (by exact zT)).trans t4
              unfold looseRun
              go_simp
              exact ⟨Below.refl _ _,trivial,rfl⟩
             refine looseSteps_cons (fun k a' w' hk0' hk1' hR hG hkp hd => ?_) ?_
             ·have hR0 : Below wv.drew.heap.size wv.drew w':=hR
              have hRb : Below wv.heap.size wv w':=⟨hR0.os,hR0.tape,hR0.output,hR0.size,hR0.block⟩
              have e1:=hd.1 rfl
              have e1' : a'.tmps.getD 221 undef = _:=e1
              have e1q:=e1'
              rw [Array.getD_eq_getD_getElem?] at e1q
              unfold looseRun
              go_simp
              refine ⟨rfl,(HAC.out _).mono ?_⟩
              rintro e w2 ⟨rfl,hb⟩
              exact ⟨_,rfl,hb,trivial,rfl⟩
             exact looseSteps_nil
            ·intro wz bz
             simp only [List.take_succ_cons,List.take_zero,List.drop_succ_cons,List.drop_zero]
             refine looseAll_cons fun v218 h218 => ?_
             refine looseAll_cons fun v219 h219 => ?_
             refine looseAll_cons fun v220 h220 => ?_
             refine looseAll_cons fun v221 h221 => ?_
             refine looseAll_cons fun v222 h222 => ?_
             refine looseAll_nil ?_
             have e1 : v218 = .agg #[Value.string who.1,Value.string who.2,Value.slice R ms.length cR,Value.slice Fo fs.length cfo,Value.int .i64 (nx + 1)]:=h218
             have e2 : v222 = .string (acOf cc nx who key):=h222
             subst e1 e2
             clear h218 h219 h220 h221 h222
             have kz:=kv.trans (bz.mono kv.size)
             have jFz:=Own.below jFv bz
             have mz:=Own.below mv bz
             have oRz:=Own.below oRv bz
             clear d0 t0 d1 t1 d2 t2 d3 t3 d4 t4
             have r0:=(show _ = some (Value.string { data:=#[] }) from oRz.cell rfl (j:=0) (by omega))
             have rf0:=oRz.frozen rfl 0
             have r1:=(show _ = some (Value.string { data:=#[] }) from oRz.cell rfl (j:=1) (by omega))
             have rf1:=oRz.frozen rfl 1
             have r2:=(show _ = some (Value.slice none 0 0) from oRz.cell rfl (j:=2) (by omega))
             have rf2:=oRz.frozen rfl 2
             have r3:=(show _ = some (Value.slice none 0 0) from oRz.cell rfl (j:=3) (by omega))
             have rf3:=oRz.frozen rfl 3
             have r4:=(show _ = some (Value.int .i64 0) from oRz.cell rfl (j:=4) (by omega))
             have rf4:=oRz.frozen rfl 4
             have hNR : ∀ b,blk R = some b → b ≠ w.heap.size + 1:=fun b hb e => own_ne mz oRz (by decide) b hb (by rw [e]; rfl)
             simp only [Act.put,List.setIfInBounds_toArray,List.set_cons_zero,List.set_cons_succ]
             go_wp2_with fail
             refine bodyPost_ret (v:=.tuple #[.agg #[Value.string who.1,Value.string who.2,Value.slice R ms.length cR,Value.slice Fo fs.length cfo,Value.int .i64 (nx + 1)],.string (acOf cc nx who key)]) ?_ rfl ?_
             ·simp [results,Tryz.results8,go_sem,r0,r1,r2,r3,r4]
             ·rw [HQ.out]
              exact ⟨R,cR,Fo,cfo,rfl,Own.more (own_setN (own_setN (own_setN (own_setN (own_setN mz (w.heap.size + 1) 0 (Value.string who.1) hNR) (w.heap.size + 1) 1 (Value.string who.2) hNR) (w.heap.size + 1) 2 (Value.slice R ms.length cR) hNR) (w.heap.size + 1) 3 (Value.slice Fo fs.length cfo) hNR) (w.heap.size + 1) 4 (Value.int .i64 (nx + 1)) hNR) (by omega),Own.more (own_setN (own_setN (own_setN (own_setN (own_setN jFz (w.heap.size + 1) 0 (Value.string who.1) hNJ) (w.heap.size + 1) 1 (Value.string who.2) hNJ) (w.heap.size + 1) 2 (Value.slice R ms.length cR) hNJ) (w.heap.size + 1) 3 (Value.slice Fo fs.length cfo) hNJ) (w.heap.size + 1) 4 (Value.int .i64 (nx + 1)) hNJ) (by omega),(((((kz.setCell (p:=⟨w.heap.size + 1,0,none⟩) (by show w.heap.size ≤ w.heap.size + 1; omega) (Value.string who.1)).setCell (p:=⟨w.heap.size + 1,1,none⟩) (by show w.heap.size ≤ w.heap.size + 1; omega) (Value.string who.2)).setCell (p:=⟨w.heap.size + 1,2,none⟩) (by show w.heap.size ≤ w.heap.size + 1; omega) (Value.slice R ms.length cR)).setCell (p:=⟨w.heap.size + 1,3,none⟩) (by show w.heap.size ≤ w.heap.size + 1; omega) (Value.slice Fo fs.length cfo)).setCell (p:=⟨w.heap.size + 1,4,none⟩) (by show w.heap.size ≤ w.heap.size + 1; omega) (Value.int .i64 (nx + 1)))⟩
       ·have hn2:=hwd
        clear hwd
        by_cases hwd : (line.extract 0 a) = wGone
        ·skip
         have HC:=Lib.hid (HBL1.out.trans (show casc (who,is,fs,nx) (line.extract 0 a) rs = takeOf (who,is,fs,nx) rs by rw [hwd]; rfl))
         have h0 : (line.extract 0 a) ≠ wFollow:=by rw [hwd]; decide
         have y0b : ((line.extract 0 a).toList == ({ data:=#[102,111,108,108,111,119] } : ByteArray).toList) = false:=ba_ne_list h0
         have y0a : ((line.extract 0 a).toList == [102,111,108,108,111,119]) = false:=by have:=y0b; rw [show ({ data:=#[102,111,108,108,111,119] } : ByteArray).toList = [102,111,108,108,111,119] by rw [ByteArray.toList_eq]] at this; exact this
         have h1 : (line.extract 0 a) ≠ wLeave:=by rw [hwd]; decide
         have y1b : ((line.extract 0 a).toList == ({ data:=#[108,101,97,118,101] } : ByteArray).toList) = false:=ba_ne_list h1
         have y1a : ((line.extract 0 a).toList == [108,101,97,118,101]) = false:=by have:=y1b; rw [show ({ data:=#[108,101,97,118,101] } : ByteArray).toList = [108,101,97,118,101] by rw [ByteArray.toList_eq]] at this; exact this
         have h2 : (line.extract 0 a) ≠ wItem:=by rw [hwd]; decide
         have y2b : ((line.extract 0 a).toList == ({ data:=#[105,116,101,109] } : ByteArray).toList) = false:=ba_ne_list h2
         have y2a : ((line.extract 0 a).toList == [105,116,101,109]) = false:=by have:=y2b; rw [show ({ data:=#[105,116,101,109] } : ByteArray).toList = [105,116,101,109] by rw [ByteArray.toList_eq]] at this; exact this
         have h3 : (line.extract 0 a) = wGone:=hwd
         have y3b : ((line.extract 0 a).toList == ({ data:=#[103,111,110,101] } : ByteArray).toList) = true:=beq_iff_eq.2 (congrArg _ h3)
         have y3a : ((line.extract 0 a).toList == [103,111,110,101]) = true:=by have:=y3b; rw [show ({ data:=#[103,111,110,101] } : ByteArray).toList = [103,111,110,101] by rw [ByteArray.toList_eq]] at this; exact this
         clear h0 h1 h2 h3
         clear hwd HBL1
         have bE : Below w7.heap.size w7 (w7.alloc (.cells #[] 69)):=(Below.refl _ _).alloc (Nat.le_refl _) _
         have ke:=k7.trans (bE.mono k7.size)
         have ge : OwnE 4 encItem 69 (w7.alloc (.cells #[] 69)) w7.heap.size (some ⟨w7.heap.size,0,none⟩) 0 ([] : List ElItem):=Own.lit w7 69 4 0 #[] (cE 4 encItem ([] : List ElItem)) (Nat.zero_le _) rfl
         have oBe:=Own.below oB7 bE
         have oRe:=Own.below oR7 bE
         have oSe:=Own.below oS7 bE
         have oOe:=Own.below oO7 bE
         have pIe:=Own.below pI7 bE
         have pFe:=Own.below pF7 bE
         have jFe:=Own.below jF7 bE
         have hoE:=(show _ = some (Value.slice Io is.length cio) from oOe.cell rfl (j:=2) (by omega))
         have sO:=Own.set oOe rfl (j:=2) (Value.slice (some ⟨w7.heap.size,0,none⟩) 0 0)
         have fzO:=oOe.frozen rfl 2
         have oO8:=sO.1
         have k8:=ke.setCell (p:=⟨w4.heap.size,2,none⟩) zk4 (Value.slice (some ⟨w7.heap.size,0,none⟩) 0 0)
         have oR8:=own_setN oRe w4.heap.size 2 (Value.slice (some ⟨w7.heap.size,0,none⟩) 0 0) (fun b hb => by simp [blk] at hb; omega)
         have oB8:=own_setN oBe w4.heap.size 2 (Value.slice (some ⟨w7.heap.size,0,none⟩) 0 0) (fun b hb => by simp [blk] at hb; omega)
         have oS8:=own_setN oSe w4.heap.size 2 (Value.slice (some ⟨w7.heap.size,0,none⟩) 0 0) (fun b hb => by simp [blk] at hb; omega)
         have pI8:=own_setN pIe w4.heap.size 2 (Value.slice (some ⟨w7.heap.size,0,none⟩) 0 0) (fun b hb e => own_ne pIe oOe (by decide) b hb (by rw [e]; rfl))
         have pF8:=own_setN pFe w4.heap.size 2 (Value.slice (some ⟨w7.heap.size,0,none⟩) 0 0) (fun b hb e => own_ne pFe oOe (by decide) b hb (by rw [e]; rfl))
         have jF8:=own_setN jFe w4.heap.size 2 (Value.slice (some ⟨w7.heap.size,0,none⟩) 0 0) (fun b hb e => own_ne jFe oOe (by decide) b hb (by rw [e]; rfl))
         have g8:=own_setN ge w4.heap.size 2 (Value.slice (some ⟨w7.heap.size,0,none⟩) 0 0) (fun b hb e => own_ne ge oOe (by decide) b hb (by rw [e]; rfl))
         have z78 : w7.heap.size < ((w7.alloc (.cells #[] 69)).setCell ⟨w4.heap.size,2,none⟩ (Value.slice (some ⟨w7.heap.size,0,none⟩) 0 0)).heap.size:=by simp
         have oO8c : Own ((w7.alloc (.cells #[] 69)).setCell ⟨w4.heap.size,2,none⟩ (Value.slice (some ⟨w7.heap.size,0,none⟩) 0 0)) w4.heap.size 33 5 (some ⟨w4.heap.size,0,none⟩) 1 1 (bxC who (some ⟨w7.heap.size,0,none⟩) 0 0 Fo fs.length cfo nx):=Own.congr oO8 (fun j hj => by rcases (by omega : j = 0 ∨ j = 1 ∨ j = 2 ∨ j = 3 ∨ j = 4) with rfl | rfl | rfl | rfl | rfl <;> rfl)
         go_upto_region 44 with fail
         clear sO fzO hoE bE oO8 oBe oRe oSe oOe pIe pFe jFe ge
         generalize ((w7.alloc (.cells #[] 69)).setCell ⟨w4.heap.size,2,none⟩ (Value.slice (some ⟨w7.heap.size,0,none⟩) 0 0)) = w8 at *
         have zp : ∀ b,blk Is = some b → b < w4.heap.size:=fun b hb => HLT.out.1 b hb
         have zq : ∀ b,blk Fs = some b → b < w4.heap.size:=fun b hb => HLT.out.2.1 b hb
         have zr : ∀ b,blk Fo = some b → b < w4.heap.size:=fun b hb => HLT.out.2.2 b hb
         go_wp2_with fail
         go_loopw [20] (fun i wr => ∃ (k : Nat) (R : Option Addr) (c : Nat) (cur : List ElItem),k ≤ is.length ∧ i = .int .i64 k ∧ Hid (cur = selTo (fun x => !isI rs x) is k) ∧ cur.length ≤ k ∧ Own wr w4.heap.size 33 5 (some ⟨w4.heap.size,0,none⟩) 1 1 (bxC who R cur.length c Fo fs.length cfo nx) ∧ OwnE 4 encItem 69 wr w7.heap.size R c cur ∧ Below w4.heap.size w8 wr) (fun i _ => is.length - (intOf i).toNat)
         case atStart => exact ⟨0,_,0,[],Nat.zero_le _,rfl,Lib.hid (selTo_zero _ _).symm,Nat.le_refl _,oO8c,g8,Below.refl _ _⟩
         case round =>
          clear oO8c g8
          obtain ⟨k,R,c,cur,hk,rfl,hcur,hck,oOr,gr,hb8⟩:=hrel
          have kr:=k8.trans (hb8.mono zk4)
          have z48 : w4.heap.size < w8.heap.size:=by have:=hZ8.out; omega
          have zr8:=hb8.size
          have oBr:=Own.belowB oB8 hb8 (fun b hb => by simp [blk] at hb; omega)
          have oRr:=Own.belowB oR8 hb8 (fun b hb => by simp [blk] at hb; omega)
          have oSr:=Own.belowB oS8 hb8 (fun b hb => by simp [blk] at hb; omega)
          have pIr:=Own.belowB pI8 hb8 zp
          have pFr:=Own.belowB pF8 hb8 zq
          have jFr:=Own.belowB jF8 hb8 zr
          by_cases hlt : k < is.length
          ·obtain ⟨b,off,rfl,hbb2,hc⟩:=(hI.below (kr.mono hB)).at_ (by omega)
           have c0 : wr.cell? ⟨b,off + k * 4,none⟩ = some (Value.string (gt is k).1):=hc k 0 (by omega) (by omega)
           have c1 : wr.cell? ⟨b,off + k * 4 + 1,none⟩ = some (Value.string (gt is k).2.1):=hc k 1 (by omega) (by omega)
           have c2 : wr.cell? ⟨b,off + k * 4 + 2,none⟩ = some (Value.string (gt is k).2.2.1):=hc k 2 (by omega) (by omega)
           have c3 : wr.cell? ⟨b,off + k * 4 + 3,none⟩ = some (Value.int .i64 (gt is k).2.2.2):=hc k 3 (by omega) (by omega)
           clear hc
           have a2 : wr.cell? ⟨w.heap.size,2,none⟩ = some (Value.slice (some ⟨b,off,none⟩) is.length ci):=oBr.cell rfl (j:=2) (by omega)
           have d2 : wr.cell? ⟨w4.heap.size,2,none⟩ = some (Value.slice R cur.length c):=oOr.cell rfl (j:=2) (by omega)
           have f2 : wr.frozen? ⟨w4.heap.size,2,none⟩ = false:=oOr.frozen rfl 2
           cases hq : isI rs (gt is k)
           ·have q0 : ((gt is k).1.toList == rs.toList) = false:=by rw [seq_eql]; exact hq
            have q1 : ((gt is k).1.toList != rs.toList) = true:=by unfold bne; rw [q0]; rfl
            have HN2:=Lib.hid (selTo_is (p:=fun x => !isI rs x) hlt (show (!isI rs (gt is k)) = true by rw [hq]; rfl))
            clear hq
            have bd : Below wr.heap.size wr wr.drew:=below_drew1 _
            have ba : Below wr.heap.size wr (wr.drew.alloc (.cells #[Value.string (gt is k).1,Value.string (gt is k).2.1,Value.string (gt is k).2.2.1,Value.int .i64 (gt is k).2.2.2] 69)):=bd.alloc (Nat.le_refl _) _
            have grA:=Own.below gr ba
            have oOA:=Own.below oOr ba
            obtain ⟨R1,cR1,w5,hrun,o5,g5,p5⟩:=run_append_at (P:=Tryz.prog) (w:=(wr.drew.alloc (.cells #[Value.string (gt is k).1,Value.string (gt is k).2.1,Value.string (gt is k).2.2.1,Value.int .i64 (gt is k).2.2.2] 69))) w7.heap.size 30 30 69 _ 4 56 Tryz.underlying30 info_Item rfl (by omega) R (some ⟨wr.drew.heap.size,0,none⟩) cur.length c 1 1 (wr.drew.heap.size + 1) (cE 4 encItem cur) (encItem (gt is k)) grA (rd_elem wr.drew 69 #[Value.string (gt is k).1,Value.string (gt is k).2.1,Value.string (gt is k).2.2.1,Value.int .i64 (gt is k).2.2.2] (sz:=4) (enc:=encItem) (gt is k) (fun j hj => by rcases (by omega : j = 0 ∨ j = 1 ∨ j = 2 ∨ j = 3) with rfl | rfl | rfl | rfl <;> rfl)) (fun _ _ => encItem_one _ _) (by simp only [maxLen]; omega) (by omega) (by have:=ba.size; have:=hZ8.out; omega) (by omega)
            have zA : wr.heap.size < (wr.drew.alloc (.cells #[Value.string (gt is k).1,Value.string (gt is k).2.1,Value.string (gt is k).2.2.1,Value.int .i64 (gt is k).2.2.2] 69)).heap.size:=by show wr.drew.heap.size < _; simp
            have b5 : Below (w4.heap.size + 1) wr w5:=(ba.mono (by omega)).trans (grown_below g5 (fun b hb => by have:=(Own.lt grA hb).1; have:=hZ8.out; omega) (by omega))
            have hbB : b < w4.heap.size:=by have:=hB; have:=hWB.out; omega
            have HK : ∀ v : World,Below (w4.heap.size + 1) wr v → v.cell? ⟨w.heap.size,2,none⟩ = some (Value.slice (some ⟨b,off,none⟩) is.length ci) ∧ v.cell? ⟨w4.heap.size,2,none⟩ = some (Value.slice R cur.length c) ∧ v.cell? ⟨b,off + k * 4,none⟩ = some (Value.string (gt is k).1) ∧ v.cell? ⟨b,off + k * 4 + 1,none⟩ = some (Value.string (gt is k).2.1) ∧ v.cell? ⟨b,off + k * 4 + 2,none⟩ = some (Value.string (gt is k).2.2.1) ∧ v.cell? ⟨b,off + k * 4 + 3,none⟩ = some (Value.int .i64 (gt is k).2.2.2):=fun v hv => ⟨(hv.cell (by show w.heap.size < _; omega)).trans a2,(hv.cell (by show w4.heap.size < _; omega)).trans d2,(hv.cell (by show b < _; omega)).trans c0,(hv.cell (by show b < _; omega)).trans c1,(hv.cell (by show b < _; omega)).trans c2,(hv.cell (by show b < _; omega)).trans c3⟩
            have HG3 : ∀ (n : Nat) (v : World),((n = 0 ∧ v = wr.drew) ∨ (n = 2 ∧ v = (wr.drew.alloc (.cells #[Value.string (gt is k).1,Value.string (gt is k).2.1,Value.string (gt is k).2.2.1,Value.int .i64 (gt is k).2.2.2] 69))) ∨ (n = 3 ∧ v = w5)) → Below (w4.heap.size + 1) wr v:=fun n v hv => by
             rcases hv with ⟨_,rfl⟩ | ⟨_,rfl⟩ | ⟨_,rfl⟩
             ·exact bd.mono (by omega)
             ·exact ba.mono (by omega)
             ·exact b5
            have HKH:=Lib.hid HK
            have HG:=Lib.hid HG3
            have HRUN:=Lib.hid hrun
            clear HK HG3 hrun
            go_wp2_with fail
            refine wp_region_loose (R:=fun u v => u.heap.size ≤ v.heap.size) (G:=fun n v => (n = 0 ∧ v = wr.drew) ∨ (n = 2 ∧ v = (wr.drew.alloc (.cells #[Value.string (gt is k).1,Value.string (gt is k).2.1,Value.string (gt is k).2.2.1,Value.int .i64 (gt is k).2.2.2] 69))) ∨ (n = 3 ∧ v = w5)) 10 0 [(isS (.pointer (some ⟨w4.heap.size,2,none⟩))),(isS (.slice R cur.length c)),(isS (.pointer (some ⟨w.heap.size,2,none⟩))),(isS (.slice (some ⟨b,off,none⟩) is.length ci)),(isS (.int .i64 (k : Int))),(isS (.pointer (some ⟨b,off + k * 4,none⟩))),(isS (.agg #[Value.string (gt is k).1,Value.string (gt is k).2.1,Value.string (gt is k).2.2.1,Value.int .i64 (gt is k).2.2.2])),(isG (.slice (some ⟨wr.heap.size,0,none⟩) 1 1) wr.heap.size),(isS (.slice R1 (cur.length + 1) cR1)),(isS (.pointer (some ⟨w4.heap.size,2,none⟩)))] [0,0,0,0,0,0,0,2,1,0] (by kernel_rfl) (by kernel_rfl) (by rfl) (by rfl) (by rfl) (fun _ => Nat.le_refl _) (fun _ _ _ h1 h2 => Nat.le_trans h1 h2) ?_ (.inl ⟨rfl,rfl⟩) ?_ ?_
            ·intro s hs v u u2 hu hv
             simp only [List.mem_cons,List.not_mem_nil,or_false] at hs
             rcases hs with rfl | rfl | rfl | rfl | rfl | rfl | rfl | rfl | rfl | rfl <;> first | exact hv | exact ⟨hv.1,Nat.lt_of_lt_of_le hv.2 hu⟩
            ·simp only [List.take_succ_cons,List.take_zero]
             refine looseSteps_cons (fun n a' w' hk0' hk1' hR hG hkp hd => ?_) ?_
             ·obtain ⟨x2,y2,i0,i1,i2,i3⟩:=HKH.out w' (HG.out n w' hG)
              have k7' : a'.tmps.getD 7 undef = .pointer (some ⟨w4.heap.size,0,none⟩):=hkp 7 (by rfl)
              unfold looseRun
              go_simp
              exact ⟨Nat.le_refl _,hG,rfl⟩
             refine looseSteps_cons (fun n a' w' hk0' hk1' hR hG hkp hd => ?_) ?_
             ·obtain ⟨x2,y2,i0,i1,i2,i3⟩:=HKH.out w' (HG.out n w' hG)
              have e1:=hd.1 rfl
              have e1' : a'.tmps.getD 179 undef = _:=e1
              have e1q:=e1'
              rw [Array.getD_eq_getD_getElem?] at e1q
              unfold looseRun
              go_simp
              exact ⟨Nat.le_refl _,hG,rfl⟩
             refine looseSteps_cons (fun n a' w' hk0' hk1' hR hG hkp hd => ?_) ?_
             ·obtain ⟨x2,y2,i0,i1,i2,i3⟩:=HKH.out w' (HG.out n w' hG)
              have k2' : a'.tmps.getD 2 undef = .pointer (some ⟨w.heap.size,0,none⟩):=hkp 2 (by rfl)
              unfold looseRun
              go_simp
              exact ⟨Nat.le_refl _,hG,rfl⟩
             refine looseSteps_cons (fun n a' w' hk0' hk1' hR hG hkp hd => ?_) ?_
             ·obtain ⟨x2,y2,i0,i1,i2,i3⟩:=HKH.out w' (HG.out n w' hG)
              have e1:=hd.1 rfl
              have e1' : a'.tmps.getD 181 undef = _:=e1
              have e1q:=e1'
              rw [Array.getD_eq_getD_getElem?] at e1q
              unfold looseRun
              go_simp
              exact ⟨Nat.le_refl _,hG,rfl⟩
             refine looseSteps_cons (fun n a' w' hk0' hk1' hR hG hkp hd => ?_) ?_
             ·obtain ⟨x2,y2,i0,i1,i2,i3⟩:=HKH.out w' (HG.out n w' hG)
              have k20' : a'.tmps.getD 20 undef = .int .i64 (k : Int):=hkp 20 (by rfl)
              unfold looseRun
              go_simp
              exact ⟨Nat.le_refl _,hG,rfl⟩
             refine looseSteps_cons (fun n a' w' hk0' hk1' hR hG hkp hd => ?_) ?_
             ·obtain ⟨x2,y2,i0,i1,i2,i3⟩:=HKH.out w' (HG.out n w' hG)
              have e1:=hd.1 rfl
              have e2:=hd.2.1 rfl
              have e1' : a'.tmps.getD 182 undef = _:=e1
              have e1q:=e1'
              rw [Array.getD_eq_getD_getElem?] at e1q
              have e2' : a'.tmps.getD 183 undef = _:=e2
              have e2q:=e2'
              rw [Array.getD_eq_getD_getElem?] at e2q
              have k0i : (0 : Int) ≤ (k : Int):=by omega
              have kli : (k : Int) < (is.length : Int):=by omega
              have ktn : ((k : Int)).toNat = k:=by omega
              unfold looseRun
              go_simp
              try rw [if_pos hlt]
              exact ⟨Nat.le_refl _,hG,rfl⟩
             refine looseSteps_cons (fun n a' w' hk0' hk1' hR hG hkp hd => ?_) ?_
             ·obtain ⟨x2,y2,i0,i1,i2,i3⟩:=HKH.out w' (HG.out n w' hG)
              have e1:=hd.1 rfl
              have e1' : a'.tmps.getD 184 undef = _:=e1
              have e1q:=e1'
              rw [Array.getD_eq_getD_getElem?] at e1q
              unfold looseRun
              go_simp
              exact ⟨Nat.le_refl _,hG,rfl⟩
             refine looseSteps_cons (fun n a' w' hk0' hk1' hR hG hkp hd => ?_) ?_
             ·obtain ⟨x2,y2,i0,i1,i2,i3⟩:=HKH.out w' (HG.out n w' hG)
              have e1:=hd.1 rfl
              have e1' : a'.tmps.getD 185 undef = _:=e1
              have e1q:=e1'
              rw [Array.getD_eq_getD_getElem?] at e1q
              unfold looseRun
              go_simp
              rcases hG with ⟨rfl,rfl⟩ | ⟨rfl,_⟩ | ⟨rfl,_⟩
              ·exact ⟨Nat.le_of_lt (by simp),.inr (.inl ⟨rfl,rfl⟩),rfl,zA⟩
              ·simp at hk1'
              ·simp at hk1'
             refine looseSteps_cons (fun n a' w' hk0' hk1' hR hG hkp hd => ?_) ?_
             ·obtain ⟨x2,y2,i0,i1,i2,i3⟩:=HKH.out w' (HG.out n w' hG)
              have e1:=hd.1 rfl
              obtain ⟨e2,e3⟩:=hd.2.1 rfl
              have e1' : a'.tmps.getD 180 undef = _:=e1
              have e2' : a'.tmps.getD 186 undef = _:=e2
              rcases hG with ⟨rfl,rfl⟩ | ⟨rfl,rfl⟩ | ⟨rfl,_⟩
              ·exact absurd e3 (Nat.lt_irrefl wr.heap.size)
              ·exact loose_run (.tmp 180) (.tmp 186) _ rfl _ _ _ e1' e2' HRUN.out g5.size (.inr (.inr ⟨rfl,rfl⟩)) rfl
              ·simp at hk1'
             refine looseSteps_cons (fun n a' w' hk0' hk1' hR hG hkp hd => ?_) ?_
             ·obtain ⟨x2,y2,i0,i1,i2,i3⟩:=HKH.out w' (HG.out n w' hG)
              have k7' : a'.tmps.getD 7 undef = .pointer (some ⟨w4.heap.size,0,none⟩):=hkp 7 (by rfl)
              unfold looseRun
              go_simp
              exact ⟨Nat.le_refl _,hG,rfl⟩
             exact looseSteps_nil
            ·intro wz hz1 hz2
             obtain rfl : wz = w5:=by
              rcases hz2 with ⟨h,_⟩ | ⟨h,_⟩ | ⟨_,h⟩
              ·simp at h
              ·simp at h
              ·exact h
             simp only [List.take_succ_cons,List.take_zero,List.drop_succ_cons,List.drop_zero]
             refine looseAll_cons fun v179 h179 => ?_
             refine looseAll_cons fun v180 h180 => ?_
             refine looseAll_cons fun v181 h181 => ?_
             refine looseAll_cons fun v182 h182 => ?_
             refine looseAll_cons fun v183 h183 => ?_
             refine looseAll_cons fun v184 h184 => ?_
             refine looseAll_cons fun v185 h185 => ?_
             refine looseAll_cons fun v186 h186 => ?_
             refine looseAll_cons fun v187 h187 => ?_
             refine looseAll_cons fun v188 h188 => ?_
             refine looseAll_nil ?_
             have e1 : v187 = .slice R1 (cur.length + 1) cR1:=h187
             have e2 : v188 = .pointer (some ⟨w4.heap.size,2,none⟩):=h188
             subst e1 e2
             clear h179 h180 h181 h182 h183 h184 h185 h186 h187 h188
             have oO5 : Own wz w4.heap.size 33 5 (some ⟨w4.heap.size,0,none⟩) 1 1 (bxC who R cur.length c Fo fs.length cfo nx):=Own.belowB oOr b5 (fun b hb => by simp [blk] at hb; omega)
             have d5:=oO5.cell rfl (j:=2) (by omega)
             have f5:=oO5.frozen rfl 2
             have s5:=Own.set oO5 rfl (j:=2) (Value.slice R1 (cur.length + 1) cR1)
             simp only [Act.put,List.setIfInBounds_toArray,List.set_cons_zero,List.set_cons_succ]
             go_wp2_with fail
             go_roundw
             case rel =>
              refine ⟨k + 1,R1,cR1,cur ++ [gt is k],by omega,by go_num,Lib.hid (by rw [HN2.out,← hcur.out]),by rw [List.length_append]; simp; omega,?_,own_setN (OwnE.snoc (by omega) o5) w4.heap.size 2 _ (fun b hb => by have:=(Own.lt o5 hb).1; have:=hZ8.out; omega),(hb8.trans (b5.mono (Nat.le_succ _))).setCell (p:=⟨w4.heap.size,2,none⟩) (Nat.le_refl _) _⟩
              rw [List.length_append]
              exact Own.congr s5.1 (fun j hj => by rcases (by omega : j = 0 ∨ j = 1 ∨ j = 2 ∨ j = 3 ∨ j = 4) with rfl | rfl | rfl | rfl | rfl <;> rfl)
             case measure => simp [intOf]; omega
           ·have q0 : ((gt is k).1.toList == rs.toList) = true:=by rw [seq_eql]; exact hq
            have q1 : ((gt is k).1.toList != rs.toList) = false:=by unfold bne; rw [q0]; rfl
            have HN2:=Lib.hid (selTo_not (p:=fun x => !isI rs x) hlt (show (!isI rs (gt is k)) = false by rw [hq]; rfl))
            clear hq
            go_wp2_with fail
            go_roundw
            case rel => exact ⟨k + 1,R,c,cur,by omega,by go_num,Lib.hid (by rw [HN2.out,← hcur.out]),by omega,oOr,gr,hb8⟩
            case measure => simp [intOf]; omega
          ·obtain rfl : k = is.length:=by omega
           have hfin : cur = goOf is rs:=by rw [hcur.out]; rw [selTo_all]; rfl
           have hgl:=goOf_len (key:=rs) HIV.out
           have hM:=goOf_fd (key:=rs) HIV.out
           have HTK : Hid ((hasK is rs = true → takeOf (who,is,fs,nx) rs = tellOf (who,is,fs,nx) (goOf is rs)) ∧ (hasK is rs = false → takeOf (who,is,fs,nx) rs = ((who,is,fs,nx),wNo))):=Lib.hid ⟨fun h => if_pos h,fun h => if_neg (by rw [h]; simp)⟩
           clear hcur
           rw [← hfin] at hgl hM HTK
           clear hfin
           have a0:=(show _ = some (Value.string who.1) from oBr.cell rfl (j:=0) (by omega))
           have a1:=(show _ = some (Value.string who.2) from oBr.cell rfl (j:=1) (by omega))
           have a2:=(show _ = some (Value.slice I is.length ci) from oBr.cell rfl (j:=2) (by omega))
           have a3:=(show _ = some (Value.slice F fs.length cf) from oBr.cell rfl (j:=3) (by omega))
           have a4:=(show _ = some (Value.int .i64 nx) from oBr.cell rfl (j:=4) (by omega))
           have d0:=(show _ = some (Value.string who.1) from oOr.cell rfl (j:=0) (by omega))
           have d1:=(show _ = some (Value.string who.2) from oOr.cell rfl (j:=1) (by omega))
           have d2:=(show _ = some (Value.slice R cur.length c) from oOr.cell rfl (j:=2) (by omega))
           have d3:=(show _ = some (Value.slice Fo fs.length cfo) from oOr.cell rfl (j:=3) (by omega))
           have d4:=(show _ = some (Value.int .i64 nx) from oOr.cell rfl (j:=4) (by omega))
           cases ho : hasK is rs
           ·have HQ:=Lib.hid (HC.out.trans (HTK.out.2 ho))
            have hcl:=hgl.2 ho
            have f1 : ((cur.length : Int) == (is.length : Int)) = true:=by rw [hcl]; exact beq_self_eq_true _
            clear ho hgl hcl HTK HC
            have a0:=(show _ = some (Value.string who.1) from oSr.cell rfl (j:=0) (by omega))
            have a1:=(show _ = some (Value.string who.2) from oSr.cell rfl (j:=1) (by omega))
            have a2:=(show _ = some (Value.slice Is is.length cis) from oSr.cell rfl (j:=2) (by omega))
            have a3:=(show _ = some (Value.slice Fs fs.length cfs) from oSr.cell rfl (j:=3) (by omega))
            have a4:=(show _ = some (Value.int .i64 nx) from oSr.cell rfl (j:=4) (by omega))
            have r0:=(show _ = some (Value.string { data:=#[] }) from oRr.cell rfl (j:=0) (by omega))
            have rf0:=oRr.frozen rfl 0
            have r1:=(show _ = some (Value.string { data:=#[] }) from oRr.cell rfl (j:=1) (by omega))
            have rf1:=oRr.frozen rfl 1
            have r2:=(show _ = some (Value.slice none 0 0) from oRr.cell rfl (j:=2) (by omega))
            have rf2:=oRr.frozen rfl 2
            have r3:=(show _ = some (Value.slice none 0 0) from oRr.cell rfl (j:=3) (by omega))
            have rf3:=oRr.frozen rfl 3
            have r4:=(show _ = some (Value.int .i64 0) from oRr.cell rfl (j:=4) (by omega))
            have rf4:=oRr.frozen rfl 4
            go_wp2_with fail
            refine bodyPost_ret (v:=.tuple #[.agg #[Value.string who.1,Value.string who.2,Value.slice Is is.length cis,Value.slice Fs fs.length cfs,Value.int .i64 nx],.string { data:=#[110,111] }]) ?_ rfl ?_
            ·simp [results,Tryz.results8,go_sem,r0,r1,r2,r3,r4]
            ·rw [HQ.out]
             exact ⟨Is,cis,Fs,cfs,rfl,Own.more (own_setN (own_setN (own_setN (own_setN (own_setN pIr (w.heap.size + 1) 0 (Value.string who.1) hNI) (w.heap.size + 1) 1 (Value.string who.2) hNI) (w.heap.size + 1) 2 (Value.slice Is is.length cis) hNI) (w.heap.size + 1) 3 (Value.slice Fs fs.length cfs) hNI) (w.heap.size + 1) 4 (Value.int .i64 nx) hNI) (by omega),Own.more (own_setN (own_setN (own_setN (own_setN (own_setN pFr (w.heap.size + 1) 0 (Value.string who.1) hNF) (w.heap.size + 1) 1 (Value.string who.2) hNF) (w.heap.size + 1) 2 (Value.slice Is is.length cis) hNF) (w.heap.size + 1) 3 (Value.slice Fs fs.length cfs) hNF) (w.heap.size + 1) 4 (Value.int .i64 nx) hNF) (by omega),(((((kr.setCell (p:=⟨w.heap.size + 1,0,none⟩) (by show w.heap.size ≤ w.heap.size + 1; omega) (Value.string who.1)).setCell (p:=⟨w.heap.size + 1,1,none⟩) (by show w.heap.size ≤ w.heap.size + 1; omega) (Value.string who.2)).setCell (p:=⟨w.heap.size + 1,2,none⟩) (by show w.heap.size ≤ w.heap.size + 1; omega) (Value.slice Is is.length cis)).setCell (p:=⟨w.heap.size + 1,3,none⟩) (by show w.heap.size ≤ w.heap.size + 1; omega) (Value.slice Fs fs.length cfs)).setCell (p:=⟨w.heap.size + 1,4,none⟩) (by show w.heap.size ≤ w.heap.size + 1; omega) (Value.int .i64 nx))⟩
           ·have HPQ:=Lib.hid (HC.out.trans (HTK.out.1 ho))
            have hcl : ¬ cur.length = is.length:=fun e => by rw [hgl.1 e] at ho; cases ho
            have f1 : ((cur.length : Int) == (is.length : Int)) = false:=beq_eq_false_iff_ne.2 (by omega)
            clear ho hgl hcl HTK HC
            go_upto_region 51 with fail
            clear f1 a0 a1 a2 a3 a4 d0 d1 d2 d3 d4
            obtain ⟨w20,rfl⟩ : ∃ w20 : World,w20 = wr:=⟨_,rfl⟩
            have oB20:=oBr
            have oR20:=oRr
            have oS20:=oSr
            have oO20:=oOr
            have pI20:=pIr
            have pF20:=pFr
            have jF20:=jFr
            have k20:=kr
            have g20:=gr
            have zk7:=k7.size
            clear oBr oRr oSr oOr pIr pFr jFr kr gr
            have a0:=(show _ = some (Value.string who.1) from oB20.cell rfl (j:=0) (by omega))
            have a1:=(show _ = some (Value.string who.2) from oB20.cell rfl (j:=1) (by omega))
            have a2:=(show _ = some (Value.slice I is.length ci) from oB20.cell rfl (j:=2) (by omega))
            have a3:=(show _ = some (Value.slice F fs.length cf) from oB20.cell rfl (j:=3) (by omega))
            have a4:=(show _ = some (Value.int .i64 nx) from oB20.cell rfl (j:=4) (by omega))
            have d0:=(show _ = some (Value.string who.1) from oO20.cell rfl (j:=0) (by omega))
            have d1:=(show _ = some (Value.string who.2) from oO20.cell rfl (j:=1) (by omega))
            have d2:=(show _ = some (Value.slice R cur.length c) from oO20.cell rfl (j:=2) (by omega))
            have d3:=(show _ = some (Value.slice Fo fs.length cfo) from oO20.cell rfl (j:=3) (by omega))
            have d4:=(show _ = some (Value.int .i64 nx) from oO20.cell rfl (j:=4) (by omega))
            go_wp2_with fail
            refine (specTellChanges_any who nx I ci R c w20.heap.size is cur w20 ((hI.below (k20.mono hB)).more (Nat.le_trans hB k20.size)) (OwnE.rd g20) (Nat.le_refl _) HIV.out hM HW.out HN.out).mono ?_
            rintro e wt ⟨T,cT,rfl,oTt,bt⟩
            have kt:=k20.trans (bt.mono k20.size)
            have oBt:=Own.below oB20 bt
            have oRt:=Own.below oR20 bt
            have oSt:=Own.below oS20 bt
            have oOt:=Own.below oO20 bt
            have pIt:=Own.below pI20 bt
            have pFt:=Own.below pF20 bt
            have jFt:=Own.below jF20 bt
            have gt:=Own.below g20 bt
            clear a0 d0 a1 d1 a2 d2 a3 d3 a4 d4
            have HTL : Hid ((tcOf who nx is cur).length = (tcK is cur).length):=Lib.hid (acts_len _ _ _)
            by_cases ht : (tcK is cur).length = 0
            ·have HQ : Hid (blR (who,is,fs,nx) line = ((who,is,fs,nx),wSame)):=Lib.hid (HPQ.out.trans (by unfold tellOf; rw [if_pos ht]))
             have e0 : ((((tcOf who nx is cur).length : Nat) : Int) == 0) = true:=by rw [HTL.out,ht]; rfl
             clear ht
             have a0:=(show _ = some (Value.string who.1) from oSt.cell rfl (j:=0) (by omega))
             have a1:=(show _ = some (Value.string who.2) from oSt.cell rfl (j:=1) (by omega))
             have a2:=(show _ = some (Value.slice Is is.length cis) from oSt.cell rfl (j:=2) (by omega))
             have a3:=(show _ = some (Value.slice Fs fs.length cfs) from oSt.cell rfl (j:=3) (by omega))
             have a4:=(show _ = some (Value.int .i64 nx) from oSt.cell rfl (j:=4) (by omega))
             have r0:=(show _ = some (Value.string { data:=#[] }) from oRt.cell rfl (j:=0) (by omega))
             have rf0:=oRt.frozen rfl 0
             have r1:=(show _ = some (Value.string { data:=#[] }) from oRt.cell rfl (j:=1) (by omega))
             have rf1:=oRt.frozen rfl 1
             have r2:=(show _ = some (Value.slice none 0 0) from oRt.cell rfl (j:=2) (by omega))
             have rf2:=oRt.frozen rfl 2
             have r3:=(show _ = some (Value.slice none 0 0) from oRt.cell rfl (j:=3) (by omega))
             have rf3:=oRt.frozen rfl 3
             have r4:=(show _ = some (Value.int .i64 0) from oRt.cell rfl (j:=4) (by omega))
             have rf4:=oRt.frozen rfl 4
             go_wp2_with fail
             refine bodyPost_ret (v:=.tuple #[.agg #[Value.string who.1,Value.string who.2,Value.slice Is is.length cis,Value.slice Fs fs.length cfs,Value.int .i64 nx],.string { data:=#[115,97,109,101] }]) ?_ rfl ?_
             ·simp [results,Tryz.results8,go_sem,r0,r1,r2,r3,r4]
             ·rw [HQ.out]
              exact ⟨Is,cis,Fs,cfs,rfl,Own.more (own_setN (own_setN (own_setN (own_setN (own_setN pIt (w.heap.size + 1) 0 (Value.string who.1) hNI) (w.heap.size + 1) 1 (Value.string who.2) hNI) (w.heap.size + 1) 2 (Value.slice Is is.length cis) hNI) (w.heap.size + 1) 3 (Value.slice Fs fs.length cfs) hNI) (w.heap.size + 1) 4 (Value.int .i64 nx) hNI) (by omega),Own.more (own_setN (own_setN (own_setN (own_setN (own_setN pFt (w.heap.size + 1) 0 (Value.string who.1) hNF) (w.heap.size + 1) 1 (Value.string who.2) hNF) (w.heap.size + 1) 2 (Value.slice Is is.length cis) hNF) (w.heap.size + 1) 3 (Value.slice Fs fs.length cfs) hNF) (w.heap.size + 1) 4 (Value.int .i64 nx) hNF) (by omega),(((((kt.setCell (p:=⟨w.heap.size + 1,0,none⟩) (by show w.heap.size ≤ w.heap.size + 1; omega) (Value.string who.1)).setCell (p:=⟨w.heap.size + 1,1,none⟩) (by show w.heap.size ≤ w.heap.size + 1; omega) (Value.string who.2)).setCell (p:=⟨w.heap.size + 1,2,none⟩) (by show w.heap.size ≤ w.heap.size + 1; omega) (Value.slice Is is.length cis)).setCell (p:=⟨w.heap.size + 1,3,none⟩) (by show w.heap.size ≤ w.heap.size + 1; omega) (Value.slice Fs fs.length cfs)).setCell (p:=⟨w.heap.size + 1,4,none⟩) (by show w.heap.size ≤ w.heap.size + 1; omega) (Value.int .i64 nx))⟩
            ·have e0 : ((((tcOf who nx is cur).length : Nat) : Int) == 0) = false:=by rw [HTL.out,beq_eq_false_iff_ne]; omega
             obtain ⟨cc,key,hc6,hg0,hac⟩:=told_ac HW.out HIV.out hM HN.out (by omega : 0 < (tcK is cur).length)
             have hTp : 0 < (tcOf who nx is cur).length:=by rw [HTL.out]; omega
             have a0:=(show _ = some (Value.string who.1) from oBt.cell rfl (j:=0) (by omega))
             have a1:=(show _ = some (Value.string who.2) from oBt.cell rfl (j:=1) (by omega))
             have a2:=(show _ = some (Value.slice I is.length ci) from oBt.cell rfl (j:=2) (by omega))
             have a3:=(show _ = some (Value.slice F fs.length cf) from oBt.cell rfl (j:=3) (by omega))
             have a4:=(show _ = some (Value.int .i64 nx) from oBt.cell rfl (j:=4) (by omega))
             have d4:=(show _ = some (Value.int .i64 nx) from oOt.cell rfl (j:=4) (by omega))
             have sO:=Own.set oOt rfl (j:=4) (Value.int .i64 (nx + 1))
             have fzO:=oOt.frozen rfl 4
             have oOu:=sO.1
             have ku:=kt.setCell (p:=⟨w4.heap.size,4,none⟩) zk4 (Value.int .i64 (nx + 1))
             have oRu:=own_setN oRt w4.heap.size 4 (Value.int .i64 (nx + 1)) (fun b hb => by simp [blk] at hb; omega)
             have oBu:=own_setN oBt w4.heap.size 4 (Value.int .i64 (nx + 1)) (fun b hb => by simp [blk] at hb; omega)
             have oSu:=own_setN oSt w4.heap.size 4 (Value.int .i64 (nx + 1)) (fun b hb => by simp [blk] at hb; omega)
             have pIu:=own_setN pIt w4.heap.size 4 (Value.int .i64 (nx + 1)) (fun b hb e => own_ne pIt oOt (by decide) b hb (by rw [e]; rfl))
             have pFu:=own_setN pFt w4.heap.size 4 (Value.int .i64 (nx + 1)) (fun b hb e => own_ne pFt oOt (by decide) b hb (by rw [e]; rfl))
             have jFu:=own_setN jFt w4.heap.size 4 (Value.int .i64 (nx + 1)) (fun b hb e => own_ne jFt oOt (by decide) b hb (by rw [e]; rfl))
             have gu:=own_setN gt w4.heap.size 4 (Value.int .i64 (nx + 1)) (fun b hb e => own_ne gt oOt (by decide) b hb (by rw [e]; rfl))
             have oTu:=own_setN oTt w4.heap.size 4 (Value.int .i64 (nx + 1)) (fun b hb e => own_ne oTt oOt (by decide) b hb (by rw [e]; rfl))
             go_upto_region 55 with fail
             clear fzO d4 a0 a1 a2 a3 a4
             generalize (wt.setCell ⟨w4.heap.size,4,none⟩ (Value.int .i64 (nx + 1))) = wu at *
             have d0:=(show _ = some (Value.string who.1) from oOu.cell rfl (j:=0) (by omega))
             have d1:=(show _ = some (Value.string who.2) from oOu.cell rfl (j:=1) (by omega))
             have d2:=(show _ = some (Value.slice R cur.length c) from oOu.cell rfl (j:=2) (by omega))
             have d3:=(show _ = some (Value.slice Fo fs.length cfo) from oOu.cell rfl (j:=3) (by omega))
             have d4:=(show _ = some (Value.int .i64 (nx + 1)) from oOu.cell rfl (j:=4) (by omega))
             have hmz:=fd_len hM
             go_wp2_with fail
             refine (specBridgeValid_any who R c cur Fo cfo fs (nx + 1) wu wu.heap.size (OwnE.rd gu) (OwnE.rd jFu) (Nat.le_refl _) (by omega) (by omega) (fd_sz hM) (fv_sz HFV.out) hw0 hw1).mono ?_
             rintro e wv ⟨rfl,bv⟩
             have kv:=ku.trans (bv.mono ku.size)
             have oRv:=Own.below oRu bv
             have oSv:=Own.below oSu bv
             have oOv:=Own.below oOu bv
             have pIv:=Own.below pIu bv
             have pFv:=Own.below pFu bv
             have jFv:=Own.below jFu bv
             have oTv:=Own.below oTu bv
             have gv:=Own.below gu bv
             clear d0 d1 d2 d3 d4
             cases hbv : brB who cur fs (nx + 1)
             ·have HQ : Hid (blR (who,is,fs,nx) line = ((who,is,fs,nx),wNo)):=Lib.hid (HPQ.out.trans (by unfold tellOf; rw [if_neg ht,if_neg (by rw [hbv]; simp)]))
              clear ht hbv
              have a0:=(show _ = some (Value.string who.1) from oSv.cell rfl (j:=0) (by omega))
              have a1:=(show _ = some (Value.string who.2) from oSv.cell rfl (j:=1) (by omega))
              have a2:=(show _ = some (Value.slice Is is.length cis) from oSv.cell rfl (j:=2) (by omega))
              have a3:=(show _ = some (Value.slice Fs fs.length cfs) from oSv.cell rfl (j:=3) (by omega))
              have a4:=(show _ = some (Value.int .i64 nx) from oSv.cell rfl (j:=4) (by omega))
              have r0:=(show _ = some (Value.string { data:=#[] }) from oRv.cell rfl (j:=0) (by omega))
              have rf0:=oRv.frozen rfl 0
              have r1:=(show _ = some (Value.string { data:=#[] }) from oRv.cell rfl (j:=1) (by omega))
              have rf1:=oRv.frozen rfl 1
              have r2:=(show _ = some (Value.slice none 0 0) from oRv.cell rfl (j:=2) (by omega))
              have rf2:=oRv.frozen rfl 2
              have r3:=(show _ = some (Value.slice none 0 0) from oRv.cell rfl (j:=3) (by omega))
              have rf3:=oRv.frozen rfl 3
              have r4:=(show _ = some (Value.int .i64 0) from oRv.cell rfl (j:=4) (by omega))
              have rf4:=oRv.frozen rfl 4
              go_wp2_with fail
              refine bodyPost_ret (v:=.tuple #[.agg #[Value.string who.1,Value.string who.2,Value.slice Is is.length cis,Value.slice Fs fs.length cfs,Value.int .i64 nx],.string { data:=#[110,111] }]) ?_ rfl ?_
              ·simp [results,Tryz.results8,go_sem,r0,r1,r2,r3,r4]
              ·rw [HQ.out]
               exact ⟨Is,cis,Fs,cfs,rfl,Own.more (own_setN (own_setN (own_setN (own_setN (own_setN pIv (w.heap.size + 1) 0 (Value.string who.1) hNI) (w.heap.size + 1) 1 (Value.string who.2) hNI) (w.heap.size + 1) 2 (Value.slice Is is.length cis) hNI) (w.heap.size + 1) 3 (Value.slice Fs fs.length cfs) hNI) (w.heap.size + 1) 4 (Value.int .i64 nx) hNI) (by omega),Own.more (own_setN (own_setN (own_setN (own_setN (own_setN pFv (w.heap.size + 1) 0 (Value.string who.1) hNF) (w.heap.size + 1) 1 (Value.string who.2) hNF) (w.heap.size + 1) 2 (Value.slice Is is.length cis) hNF) (w.heap.size + 1) 3 (Value.slice Fs fs.length cfs) hNF) (w.heap.size + 1) 4 (Value.int .i64 nx) hNF) (by omega),(((((kv.setCell (p:=⟨w.heap.size + 1,0,none⟩) (by show w.heap.size ≤ w.heap.size + 1; omega) (Value.string who.1)).setCell (p:=⟨w.heap.size + 1,1,none⟩) (by show w.heap.size ≤ w.heap.size + 1; omega) (Value.string who.2)).setCell (p:=⟨w.heap.size + 1,2,none⟩) (by show w.heap.size ≤ w.heap.size + 1; omega) (Value.slice Is is.length cis)).setCell (p:=⟨w.heap.size + 1,3,none⟩) (by show w.heap.size ≤ w.heap.size + 1; omega) (Value.slice Fs fs.length cfs)).setCell (p:=⟨w.heap.size + 1,4,none⟩) (by show w.heap.size ≤ w.heap.size + 1; omega) (Value.int .i64 nx))⟩
             ·have HQ : Hid (blR (who,is,fs,nx) line = ((who,cur,fs,nx + 1),acOf cc nx who key)):=Lib.hid (HPQ.out.trans (by
                 unfold tellOf
                 rw [if_neg ht,if_pos hbv,hg0]
                 rfl))
              clear ht hbv
              obtain ⟨bT,hbT⟩ : ∃ b,T = some ⟨b,0,none⟩:=by
               rcases Own.shape oTv with ⟨_,h0,_⟩ | ⟨b,h1,_⟩
               ·omega
               ·exact ⟨b,h1⟩
              have zT : bT < wv.heap.size:=(oTv.lt (b:=bT) (by rw [hbT]; rfl)).2
              have t0 : wv.cell? ⟨bT,0,none⟩ = some (Value.int .i64 (cc : Int)):=by have:=Own.cell oTv hbT (j:=0 * 5 + 0) (by omega); rw [cE_at encAct _ 0 (by omega),hg0,Nat.zero_mul,Nat.zero_add] at this; exact this
              have t1 : wv.cell? ⟨bT,1,none⟩ = some (Value.int .i64 nx):=by have:=Own.cell oTv hbT (j:=0 * 5 + 1) (by omega); rw [cE_at encAct _ 0 (by omega),hg0,Nat.zero_mul,Nat.zero_add] at this; exact this
              have t2 : wv.cell? ⟨bT,2,none⟩ = some (Value.string who.1):=by have:=Own.cell oTv hbT (j:=0 * 5 + 2) (by omega); rw [cE_at encAct _ 0 (by omega),hg0,Nat.zero_mul,Nat.zero_add] at this; exact this
              have t3 : wv.cell? ⟨bT,3,none⟩ = some (Value.string who.2):=by have:=Own.cell oTv hbT (j:=0 * 5 + 3) (by omega); rw [cE_at encAct _ 0 (by omega),hg0,Nat.zero_mul,Nat.zero_add] at this; exact this
              have t4 : wv.cell? ⟨bT,4,none⟩ = some (Value.string key):=by have:=Own.cell oTv hbT (j:=0 * 5 + 4) (by omega); rw [cE_at encAct _ 0 (by omega),hg0,Nat.zero_mul,Nat.zero_add] at this; exact this
              have d0:=(show _ = some (Value.string who.1) from oOv.cell rfl (j:=0) (by omega))
              have d1:=(show _ = some (Value.string who.2) from oOv.cell rfl (j:=1) (by omega))
              have d2:=(show _ = some (Value.slice R cur.length c) from oOv.cell rfl (j:=2) (by omega))
              have d3:=(show _ = some (Value.slice Fo fs.length cfo) from oOv.cell rfl (j:=3) (by omega))
              have d4:=(show _ = some (Value.int .i64 (nx + 1)) from oOv.cell rfl (j:=4) (by omega))
              have zOv:=(oOv.lt (b:=w4.heap.size) rfl).2
              subst hbT
              have HAC:=Lib.hid (fun (z : World) => specActivityText_any cc nx who key z hc6 hac)
              clear hac hg0
              go_wp2_with fail
              refine wp_region_makes 5 [(isS (.agg #[Value.string who.1,Value.string who.2,Value.slice R cur.length c,Value.slice Fo fs.length cfo,Value.int .i64 (nx + 1)])),(isS (.slice (some ⟨bT,0,none⟩) (tcOf who nx is cur).length cT)),(isS (.pointer (some ⟨bT,0,none⟩))),(isS (.agg #[Value.int .i64 (cc : Int),Value.int .i64 nx,Value.string who.1,Value.string who.2,Value.string key])),(isS (.string (acOf cc nx who key)))] [0,0,0,0,0] (by kernel_rfl) (by kernel_rfl) (by rfl) (by rfl) (by rfl) ?_ ?_ ?_
              ·repeat (first | exact stbB_nil | refine stbB_cons (isS_stb _) ?_)
              ·simp only [List.take_succ_cons,List.take_zero]
               refine looseSteps_cons (fun k a' w' hk0' hk1' hR hG hkp hd => ?_) ?_
               ·have hR0 : Below wv.drew.heap.size wv.drew w':=hR
                have hRb : Below wv.heap.size wv w':=⟨hR0.os,hR0.tape,hR0.output,hR0.size,hR0.block⟩
                have k7' : a'.tmps.getD 7 undef = .pointer (some ⟨w4.heap.size,0,none⟩):=hkp 7 (by rfl)
                have rr0:=(hRb.cell (p:=⟨w4.heap.size,0,none⟩) (by exact zOv)).trans d0
                have rr1:=(hRb.cell (p:=⟨w4.heap.size,1,none⟩) (by exact zOv)).trans d1
                have rr2:=(hRb.cell (p:=⟨w4.heap.size,2,none⟩) (by exact zOv)).trans d2
                have rr3:=(hRb.cell (p:=⟨w4.heap.size,3,none⟩) (by exact zOv)).trans d3
                have rr4:=(hRb.cell (p:=⟨w4.heap.size,4,none⟩) (by exact zOv)).trans d4
                unfold looseRun
                go_simp
                exact ⟨Below.refl _ _,trivial,rfl⟩
               refine looseSteps_cons (fun k a' w' hk0' hk1' hR hG hkp hd => ?_) ?_
               ·have hR0 : Below wv.drew.heap.size wv.drew w':=hR
                have hRb : Below wv.heap.size wv w':=⟨hR0.os,hR0.tape,hR0.output,hR0.size,hR0.block⟩
                have k21' : a'.tmps.getD 21 undef = .slice (some ⟨bT,0,none⟩) (tcOf who nx is cur).length cT:=hkp 21 (by rfl)
                unfold looseRun
                go_simp
                exact ⟨Below.refl _ _,trivial,rfl⟩
               refine looseSteps_cons (fun k a' w' hk0' hk1' hR hG hkp hd => ?_) ?_
               ·have hR0 : Below wv.drew.heap.size wv.drew w':=hR
                have hRb : Below wv.heap.size wv w':=⟨hR0.os,hR0.tape,hR0.output,hR0.size,hR0.block⟩
                have e1:=hd.1 rfl
                have e1' : a'.tmps.getD 219 undef = _:=e1
                have e1q:=e1'
                rw [Array.getD_eq_getD_getElem?] at e1q
                have hTi : (0 : Int) < ((tcOf who nx is cur).length : Int):=by omega
                unfold looseRun
                go_simp
                try rw [if_pos hTp]
                exact ⟨Below.refl _ _,trivial,rfl⟩
               refine looseSteps_cons (fun k a' w' hk0' hk1' hR hG hkp hd => ?_) ?_
               ·have hR0 : Below wv.drew.heap.size wv.drew w':=hR
                have hRb : Below wv.heap.size wv w':=⟨hR0.os,hR0.tape,hR0.output,hR0.size,hR0.block⟩
                have e1:=hd.1 rfl
                have e1' : a'.tmps.getD 220 undef = _:=e1
                have e1q:=e1'
                rw [Array.getD_eq_getD_getElem?] at e1q
                have rr0:=(hRb.cell (p:=⟨bT,0,none⟩) (by exact zT)).trans t0
                have rr1:=(hRb.cell (p:=⟨bT,1,none⟩) (by exact zT)).trans t1
                have rr2:=(hRb.cell (p:=⟨bT,2,none⟩) (by exact zT)).trans t2
                have rr3:=(hRb.cell (p:=⟨bT,3,none⟩) (by exact zT)).trans t3
                have rr4:=(hRb.cell (p:=⟨bT,4,none⟩) (by exact zT)).trans t4
                unfold looseRun
                go_simp
                exact ⟨Below.refl _ _,trivial,rfl⟩
               refine looseSteps_cons (fun k a' w' hk0' hk1' hR hG hkp hd => ?_) ?_
               ·have hR0 : Below wv.drew.heap.size wv.drew w':=hR
                have hRb : Below wv.heap.size wv w':=⟨hR0.os,hR0.tape,hR0.output,hR0.size,hR0.block⟩
                have e1:=hd.1 rfl
                have e1' : a'.tmps.getD 221 undef = _:=e1
                have e1q:=e1'
                rw [Array.getD_eq_getD_getElem?] at e1q
                unfold looseRun
                go_simp
                refine ⟨rfl,(HAC.out _).mono ?_⟩
                rintro e w2 ⟨rfl,hb⟩
                exact ⟨_,rfl,hb,trivial,rfl⟩
               exact looseSteps_nil
              ·intro wz bz
               simp only [List.take_succ_cons,List.take_zero,List.drop_succ_cons,List.drop_zero]
               refine looseAll_cons fun v218 h218 => ?_
               refine looseAll_cons fun v219 h219 => ?_
               refine looseAll_cons fun v220 h220 => ?_
               refine looseAll_cons fun v221 h221 => ?_
               refine looseAll_cons fun v222 h222 => ?_
               refine looseAll_nil ?_
               have e1 : v218 = .agg #[Value.string who.1,Value.string who.2,Value.slice R cur.length c,Value.slice Fo fs.length cfo,Value.int .i64 (nx + 1)]:=h218
               have e2 : v222 = .string (acOf cc nx who key):=h222
               subst e1 e2
               clear h218 h219 h220 h221 h222
               have kz:=kv.trans (bz.mono kv.size)
               have jFz:=Own.below jFv bz
               have gz:=Own.below gv bz
               have oRz:=Own.below oRv bz
               clear d0 t0 d1 t1 d2 t2 d3 t3 d4 t4
               have r0:=(show _ = some (Value.string { data:=#[] }) from oRz.cell rfl (j:=0) (by omega))
               have rf0:=oRz.frozen rfl 0
               have r1:=(show _ = some (Value.string { data:=#[] }) from oRz.cell rfl (j:=1) (by omega))
               have rf1:=oRz.frozen rfl 1
               have r2:=(show _ = some (Value.slice none 0 0) from oRz.cell rfl (j:=2) (by omega))
               have rf2:=oRz.frozen rfl 2
               have r3:=(show _ = some (Value.slice none 0 0) from oRz.cell rfl (j:=3) (by omega))
               have rf3:=oRz.frozen rfl 3
               have r4:=(show _ = some (Value.int .i64 0) from oRz.cell rfl (j:=4) (by omega))
               have rf4:=oRz.frozen rfl 4
               have hNR : ∀ b,blk R = some b → b ≠ w.heap.size + 1:=fun b hb e => own_ne gz oRz (by decide) b hb (by rw [e]; rfl)
               simp only [Act.put,List.setIfInBounds_toArray,List.set_cons_zero,List.set_cons_succ]
               go_wp2_with fail
               refine bodyPost_ret (v:=.tuple #[.agg #[Value.string who.1,Value.string who.2,Value.slice R cur.length c,Value.slice Fo fs.length cfo,Value.int .i64 (nx + 1)],.string (acOf cc nx who key)]) ?_ rfl ?_
               ·simp [results,Tryz.results8,go_sem,r0,r1,r2,r3,r4]
               ·rw [HQ.out]
                exact ⟨R,c,Fo,cfo,rfl,Own.more (own_setN (own_setN (own_setN (own_setN (own_setN gz (w.heap.size + 1) 0 (Value.string who.1) hNR) (w.heap.size + 1) 1 (Value.string who.2) hNR) (w.heap.size + 1) 2 (Value.slice R cur.length c) hNR) (w.heap.size + 1) 3 (Value.slice Fo fs.length cfo) hNR) (w.heap.size + 1) 4 (Value.int .i64 (nx + 1)) hNR) (by omega),Own.more (own_setN (own_setN (own_setN (own_setN (own_setN jFz (w.heap.size + 1) 0 (Value.string who.1) hNJ) (w.heap.size + 1) 1 (Value.string who.2) hNJ) (w.heap.size + 1) 2 (Value.slice R cur.length c) hNJ) (w.heap.size + 1) 3 (Value.slice Fo fs.length cfo) hNJ) (w.heap.size + 1) 4 (Value.int .i64 (nx + 1)) hNJ) (by omega),(((((kz.setCell (p:=⟨w.heap.size + 1,0,none⟩) (by show w.heap.size ≤ w.heap.size + 1; omega) (Value.string who.1)).setCell (p:=⟨w.heap.size + 1,1,none⟩) (by show w.heap.size ≤ w.heap.size + 1; omega) (Value.string who.2)).setCell (p:=⟨w.heap.size + 1,2,none⟩) (by show w.heap.size ≤ w.heap.size + 1; omega) (Value.slice R cur.length c)).setCell (p:=⟨w.heap.size + 1,3,none⟩) (by show w.heap.size ≤ w.heap.size + 1; omega) (Value.slice Fo fs.length cfo)).setCell (p:=⟨w.heap.size + 1,4,none⟩) (by show w.heap.size ≤ w.heap.size + 1; omega) (Value.int .i64 (nx + 1)))⟩
        ·have hn3:=hwd
         clear hwd
         have HQ : Hid (blR (who,is,fs,nx) line = ((who,is,fs,nx),wNo)):=Lib.hid (HBL1.out.trans (by unfold casc; rw [if_neg hn2,if_neg hn3,if_neg hn0,if_neg hn1]))
         have h0 : (line.extract 0 a) ≠ wFollow:=hn0
         have y0b : ((line.extract 0 a).toList == ({ data:=#[102,111,108,108,111,119] } : ByteArray).toList) = false:=ba_ne_list h0
         have y0a : ((line.extract 0 a).toList == [102,111,108,108,111,119]) = false:=by have:=y0b; rw [show ({ data:=#[102,111,108,108,111,119] } : ByteArray).toList = [102,111,108,108,111,119] by rw [ByteArray.toList_eq]] at this; exact this
         have h1 : (line.extract 0 a) ≠ wLeave:=hn1
         have y1b : ((line.extract 0 a).toList == ({ data:=#[108,101,97,118,101] } : ByteArray).toList) = false:=ba_ne_list h1
         have y1a : ((line.extract 0 a).toList == [108,101,97,118,101]) = false:=by have:=y1b; rw [show ({ data:=#[108,101,97,118,101] } : ByteArray).toList = [108,101,97,118,101] by rw [ByteArray.toList_eq]] at this; exact this
         have h2 : (line.extract 0 a) ≠ wItem:=hn2
         have y2b : ((line.extract 0 a).toList == ({ data:=#[105,116,101,109] } : ByteArray).toList) = false:=ba_ne_list h2
         have y2a : ((line.extract 0 a).toList == [105,116,101,109]) = false:=by have:=y2b; rw [show ({ data:=#[105,116,101,109] } : ByteArray).toList = [105,116,101,109] by rw [ByteArray.toList_eq]] at this; exact this
         have h3 : (line.extract 0 a) ≠ wGone:=hn3
         have y3b : ((line.extract 0 a).toList == ({ data:=#[103,111,110,101] } : ByteArray).toList) = false:=ba_ne_list h3
         have y3a : ((line.extract 0 a).toList == [103,111,110,101]) = false:=by have:=y3b; rw [show ({ data:=#[103,111,110,101] } : ByteArray).toList = [103,111,110,101] by rw [ByteArray.toList_eq]] at this; exact this
         clear h0 h1 h2 h3
         have a0:=(show _ = some (Value.string who.1) from oS7.cell rfl (j:=0) (by omega))
         have a1:=(show _ = some (Value.string who.2) from oS7.cell rfl (j:=1) (by omega))
         have a2:=(show _ = some (Value.slice Is is.length cis) from oS7.cell rfl (j:=2) (by omega))
         have a3:=(show _ = some (Value.slice Fs fs.length cfs) from oS7.cell rfl (j:=3) (by omega))
         have a4:=(show _ = some (Value.int .i64 nx) from oS7.cell rfl (j:=4) (by omega))
         have r0:=(show _ = some (Value.string { data:=#[] }) from oR7.cell rfl (j:=0) (by omega))
         have rf0:=oR7.frozen rfl 0
         have r1:=(show _ = some (Value.string { data:=#[] }) from oR7.cell rfl (j:=1) (by omega))
         have rf1:=oR7.frozen rfl 1
         have r2:=(show _ = some (Value.slice none 0 0) from oR7.cell rfl (j:=2) (by omega))
         have rf2:=oR7.frozen rfl 2
         have r3:=(show _ = some (Value.slice none 0 0) from oR7.cell rfl (j:=3) (by omega))
         have rf3:=oR7.frozen rfl 3
         have r4:=(show _ = some (Value.int .i64 0) from oR7.cell rfl (j:=4) (by omega))
         have rf4:=oR7.frozen rfl 4
         go_wp2_with fail
         refine bodyPost_ret (v:=.tuple #[.agg #[Value.string who.1,Value.string who.2,Value.slice Is is.length cis,Value.slice Fs fs.length cfs,Value.int .i64 nx],.string { data:=#[110,111] }]) ?_ rfl ?_
         ·simp [results,Tryz.results8,go_sem,r0,r1,r2,r3,r4]
         ·rw [HQ.out]
          exact ⟨Is,cis,Fs,cfs,rfl,Own.more (own_setN (own_setN (own_setN (own_setN (own_setN pI7 (w.heap.size + 1) 0 (Value.string who.1) hNI) (w.heap.size + 1) 1 (Value.string who.2) hNI) (w.heap.size + 1) 2 (Value.slice Is is.length cis) hNI) (w.heap.size + 1) 3 (Value.slice Fs fs.length cfs) hNI) (w.heap.size + 1) 4 (Value.int .i64 nx) hNI) (by omega),Own.more (own_setN (own_setN (own_setN (own_setN (own_setN pF7 (w.heap.size + 1) 0 (Value.string who.1) hNF) (w.heap.size + 1) 1 (Value.string who.2) hNF) (w.heap.size + 1) 2 (Value.slice Is is.length cis) hNF) (w.heap.size + 1) 3 (Value.slice Fs fs.length cfs) hNF) (w.heap.size + 1) 4 (Value.int .i64 nx) hNF) (by omega),(((((k7.setCell (p:=⟨w.heap.size + 1,0,none⟩) (by show w.heap.size ≤ w.heap.size + 1; omega) (Value.string who.1)).setCell (p:=⟨w.heap.size + 1,1,none⟩) (by show w.heap.size ≤ w.heap.size + 1; omega) (Value.string who.2)).setCell (p:=⟨w.heap.size + 1,2,none⟩) (by show w.heap.size ≤ w.heap.size + 1; omega) (Value.slice Is is.length cis)).setCell (p:=⟨w.heap.size + 1,3,none⟩) (by show w.heap.size ≤ w.heap.size + 1; omega) (Value.slice Fs fs.length cfs)).setCell (p:=⟨w.heap.size + 1,4,none⟩) (by show w.heap.size ≤ w.heap.size + 1; omega) (Value.int .i64 nx))⟩
end Go.Proofs.YtfnmlffpnmmcdaaGreatDoor
