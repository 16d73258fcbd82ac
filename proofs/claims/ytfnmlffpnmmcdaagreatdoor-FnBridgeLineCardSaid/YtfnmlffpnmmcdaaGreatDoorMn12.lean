/- Parts of the proof, merged: LawBridgeLine. -/
import Derived.Test.YtfnmlffpnmmcdaaGreatDoorMn11
import Derived.Test.YtfnmlffpnmmcdaaGreatDoorMn9
import Derived.Deep.Cut
namespace Go.Proofs.YtfnmlffpnmmcdaaGreatDoor
set_option maxRecDepth 100000
open Go.RowKit PP
set_option maxHeartbeats 6400000 in
theorem FnBridgeLine_walk (A : Option Addr) (cap : Nat) (cs : List Int) (w : World) (h : Rd w w.heap.size 1 A cs.length (fun j => .int .u8 (at_ cs j))) (hc : cs.length ≤ cap) (_ : cap ≤ maxLen) (hwf : ∀ n ∈ cs,(Lit.int .u8 n).wf = true) (hT : KwTab w) (hE : EsTab w) :
    Calls Tryz.prog 4 #[.slice A cs.length cap] w fun e w' => e = .returned (.bool true) ∧ Below w.heap.size w w':=by
 by_cases hs : cs.length ≤ 1048576
 ·have hd : decide (1048576 < (cs.length : Int)) = false:=decide_eq_false (by omega)
  have hbyte:=Lib.hid (byte_bounds hwf)
  have HT:=Lib.hid hT
  have HE:=Lib.hid hE
  clear hwf hT hE
  go_enter Tryz.func4,Tryz.ntmps4
  go_wp2_with fail
  refine (DrawBridgeLine_any A cap _ cs w h (Nat.le_refl _) hbyte.out hc hs).mono ?_
  rintro e v0 ⟨who,I,ci,is,F,cf,fs,nx,ln,rfl,⟨hw0,hw1⟩,⟨hil,hiz⟩,⟨hfl,hfz⟩,⟨hn0,hn1⟩,hln,pI0,pF0,k0⟩
  have HIZ:=Lib.hid (szI_max hiz)
  have HFZ:=Lib.hid (szH_max hfz)
  have hcI:=OwnE.capLe pI0
  clear hiz hfz h hbyte
  have hlm : ln.size ≤ maxLen:=by simp only [maxLen]; omega
  have hw0m:=sz9 hw0
  have hw1m:=sz9 hw1
  have oB1 : Own (v0.alloc (.cells #[Value.string who.1,Value.string who.2,Value.slice I is.length ci,Value.slice F fs.length cf,Value.int .i64 nx] 33)) v0.heap.size 33 5 (some ⟨v0.heap.size,0,none⟩) 1 1 (bxC who I is.length ci F fs.length cf nx):=Own.lit v0 33 5 1 #[Value.string who.1,Value.string who.2,Value.slice I is.length ci,Value.slice F fs.length cf,Value.int .i64 nx] (bxC who I is.length ci F fs.length cf nx) (by simp only [maxLen]; omega) rfl
  have bb : Below v0.heap.size v0 (v0.alloc (.cells #[Value.string who.1,Value.string who.2,Value.slice I is.length ci,Value.slice F fs.length cf,Value.int .i64 nx] 33)):=(Below.refl _ _).alloc (Nat.le_refl _) _
  have z1:=bb.size
  have k1:=k0.trans (bb.mono k0.size)
  have zw1:=k1.size
  have pI1:=Own.below pI0 bb
  have pF1:=Own.below pF0 bb
  clear pI0 pF0 k0 bb
  go_upto_region 4 with fail
  generalize (v0.alloc (.cells #[Value.string who.1,Value.string who.2,Value.slice I is.length ci,Value.slice F fs.length cf,Value.int .i64 nx] 33)) = v1 at *
  have zb_oB:=(oB1.lt (b:=v0.heap.size) rfl).2
  have a0:=(show _ = some (Value.string who.1) from oB1.cell rfl (j:=0) (by omega))
  have a1:=(show _ = some (Value.string who.2) from oB1.cell rfl (j:=1) (by omega))
  have a2:=(show _ = some (Value.slice I is.length ci) from oB1.cell rfl (j:=2) (by omega))
  have a3:=(show _ = some (Value.slice F fs.length cf) from oB1.cell rfl (j:=3) (by omega))
  have a4:=(show _ = some (Value.int .i64 nx) from oB1.cell rfl (j:=4) (by omega))
  go_wp2_with fail
  refine (implBridgeLine_any ln who is fs nx I ci F cf v1.heap.size v1 (OwnE.rd pI1) (OwnE.rd pF1) (Nat.le_refl _) (by omega) (by omega) hcI HIZ.out HFZ.out hw0m hw1m hlm (HT.out.below k1 (Nat.le_refl _)) (HE.out.below k1 (Nat.le_refl _))).mono ?_
  rintro e v2 ⟨Ix,cx,Fx,dx,rfl,xI2,xF2,bq⟩
  clear a0 a1 a2 a3 a4
  have z2:=bq.size
  have k2:=k1.trans (bq.mono k1.size)
  have zw2:=k2.size
  have pI2:=Own.below pI1 bq
  have pF2:=Own.below pF1 bq
  have oB2:=Own.below oB1 bq
  clear pI1 pF1 oB1 k1 bq
  obtain ⟨hRi,hRf⟩:=blR_fd2 (b:=(who,is,fs,nx)) (line:=ln)
  obtain ⟨r,hr⟩ : ∃ r,r = blR (who,is,fs,nx) ln:=⟨_,rfl⟩
  rw [← hr] at hRi hRf xI2 xF2 ⊢
  have HR:=Lib.hid hr
  clear hr
  have ri8:=fd_len hRi
  have rf10:=(Fv.of hRf).1
  have oX3 : Own (v2.alloc (.cells #[Value.string r.1.1.1,Value.string r.1.1.2,Value.slice Ix r.1.2.1.length cx,Value.slice Fx r.1.2.2.1.length dx,Value.int .i64 r.1.2.2.2] 33)) v2.heap.size 33 5 (some ⟨v2.heap.size,0,none⟩) 1 1 (bxC r.1.1 Ix r.1.2.1.length cx Fx r.1.2.2.1.length dx r.1.2.2.2):=Own.lit v2 33 5 1 #[Value.string r.1.1.1,Value.string r.1.1.2,Value.slice Ix r.1.2.1.length cx,Value.slice Fx r.1.2.2.1.length dx,Value.int .i64 r.1.2.2.2] (bxC r.1.1 Ix r.1.2.1.length cx Fx r.1.2.2.1.length dx r.1.2.2.2) (by simp only [maxLen]; omega) rfl
  have bb : Below v2.heap.size v2 (v2.alloc (.cells #[Value.string r.1.1.1,Value.string r.1.1.2,Value.slice Ix r.1.2.1.length cx,Value.slice Fx r.1.2.2.1.length dx,Value.int .i64 r.1.2.2.2] 33)):=(Below.refl _ _).alloc (Nat.le_refl _) _
  have z3:=bb.size
  have k3:=k2.trans (bb.mono k2.size)
  have zw3:=k3.size
  have pI3:=Own.below pI2 bb
  have pF3:=Own.below pF2 bb
  have oB3:=Own.below oB2 bb
  have xI3:=Own.below xI2 bb
  have xF3:=Own.below xF2 bb
  clear pI2 pF2 oB2 xI2 xF2 k2 bb
  go_upto_region 5 with fail
  generalize (v2.alloc (.cells #[Value.string r.1.1.1,Value.string r.1.1.2,Value.slice Ix r.1.2.1.length cx,Value.slice Fx r.1.2.2.1.length dx,Value.int .i64 r.1.2.2.2] 33)) = v3 at *
  have zb_oX:=(oX3.lt (b:=v2.heap.size) rfl).2
  have a0:=(show _ = some (Value.string who.1) from oB3.cell rfl (j:=0) (by omega))
  have a1:=(show _ = some (Value.string who.2) from oB3.cell rfl (j:=1) (by omega))
  have a2:=(show _ = some (Value.slice I is.length ci) from oB3.cell rfl (j:=2) (by omega))
  have a3:=(show _ = some (Value.slice F fs.length cf) from oB3.cell rfl (j:=3) (by omega))
  have a4:=(show _ = some (Value.int .i64 nx) from oB3.cell rfl (j:=4) (by omega))
  go_wp2_with fail
  refine (specBridgeLine_any ln who is fs nx I ci F cf v3.heap.size v3 (OwnE.rd pI3) (OwnE.rd pF3) (Nat.le_refl _) (by omega) (by omega) hcI HIZ.out HFZ.out hw0m hw1m hlm (Own.shp pF3)).mono ?_
  rintro e v4 ⟨Iy,cy,Fy,dy,rfl,yI4,yF4,bq⟩
  clear a0 a1 a2 a3 a4
  rw [← HR.out] at yI4 yF4 ⊢
  have z4:=bq.size
  have k4:=k3.trans (bq.mono k3.size)
  have zw4:=k4.size
  have pI4:=Own.below pI3 bq
  have pF4:=Own.below pF3 bq
  have oB4:=Own.below oB3 bq
  have xI4:=Own.below xI3 bq
  have xF4:=Own.below xF3 bq
  have oX4:=Own.below oX3 bq
  clear pI3 pF3 oB3 xI3 xF3 oX3 k3 bq
  have oY5 : Own (v4.alloc (.cells #[Value.string r.1.1.1,Value.string r.1.1.2,Value.slice Iy r.1.2.1.length cy,Value.slice Fy r.1.2.2.1.length dy,Value.int .i64 r.1.2.2.2] 33)) v4.heap.size 33 5 (some ⟨v4.heap.size,0,none⟩) 1 1 (bxC r.1.1 Iy r.1.2.1.length cy Fy r.1.2.2.1.length dy r.1.2.2.2):=Own.lit v4 33 5 1 #[Value.string r.1.1.1,Value.string r.1.1.2,Value.slice Iy r.1.2.1.length cy,Value.slice Fy r.1.2.2.1.length dy,Value.int .i64 r.1.2.2.2] (bxC r.1.1 Iy r.1.2.1.length cy Fy r.1.2.2.1.length dy r.1.2.2.2) (by simp only [maxLen]; omega) rfl
  have bb : Below v4.heap.size v4 (v4.alloc (.cells #[Value.string r.1.1.1,Value.string r.1.1.2,Value.slice Iy r.1.2.1.length cy,Value.slice Fy r.1.2.2.1.length dy,Value.int .i64 r.1.2.2.2] 33)):=(Below.refl _ _).alloc (Nat.le_refl _) _
  have z5:=bb.size
  have k5:=k4.trans (bb.mono k4.size)
  have zw5:=k5.size
  have pI5:=Own.below pI4 bb
  have pF5:=Own.below pF4 bb
  have oB5:=Own.below oB4 bb
  have xI5:=Own.below xI4 bb
  have xF5:=Own.below xF4 bb
  have oX5:=Own.below oX4 bb
  have yI5:=Own.below yI4 bb
  have yF5:=Own.below yF4 bb
  clear pI4 pF4 oB4 xI4 xF4 oX4 yI4 yF4 k4 bb
  go_upto_region 6 with fail
  generalize (v4.alloc (.cells #[Value.string r.1.1.1,Value.string r.1.1.2,Value.slice Iy r.1.2.1.length cy,Value.slice Fy r.1.2.2.1.length dy,Value.int .i64 r.1.2.2.2] 33)) = v5 at *
  have zb_oY:=(oY5.lt (b:=v4.heap.size) rfl).2
  have a0:=(show _ = some (Value.string r.1.1.1) from oX5.cell rfl (j:=0) (by omega))
  have a1:=(show _ = some (Value.string r.1.1.2) from oX5.cell rfl (j:=1) (by omega))
  have a2:=(show _ = some (Value.slice Ix r.1.2.1.length cx) from oX5.cell rfl (j:=2) (by omega))
  have a3:=(show _ = some (Value.slice Fx r.1.2.2.1.length dx) from oX5.cell rfl (j:=3) (by omega))
  have a4:=(show _ = some (Value.int .i64 r.1.2.2.2) from oX5.cell rfl (j:=4) (by omega))
  have y0:=(show _ = some (Value.string r.1.1.1) from oY5.cell rfl (j:=0) (by omega))
  have y1:=(show _ = some (Value.string r.1.1.2) from oY5.cell rfl (j:=1) (by omega))
  have y2:=(show _ = some (Value.slice Iy r.1.2.1.length cy) from oY5.cell rfl (j:=2) (by omega))
  have y3:=(show _ = some (Value.slice Fy r.1.2.2.1.length dy) from oY5.cell rfl (j:=3) (by omega))
  have y4:=(show _ = some (Value.int .i64 r.1.2.2.2) from oY5.cell rfl (j:=4) (by omega))
  have hne : (r.2.toList != r.2.toList) = false:=by simp
  go_wp2_with fail
  refine (sameBridge_self r.1.1 Ix cx r.1.2.1 Fx dx r.1.2.2.1 r.1.2.2.2 Iy Fy cy dy v5 v5.heap.size (OwnE.rd xI5) (OwnE.rd xF5) (Nat.le_refl _) (OwnE.rd yI5) (OwnE.rd yF5) (by omega) (by omega)).mono ?_
  rintro e v6 ⟨rfl,bq⟩
  clear a0 a1 a2 a3 a4 y0 y1 y2 y3 y4
  have z6:=bq.size
  have k6:=k5.trans (bq.mono k5.size)
  have zw6:=k6.size
  have pI6:=Own.below pI5 bq
  have pF6:=Own.below pF5 bq
  have oB6:=Own.below oB5 bq
  have xI6:=Own.below xI5 bq
  have xF6:=Own.below xF5 bq
  have oX6:=Own.below oX5 bq
  have yI6:=Own.below yI5 bq
  have yF6:=Own.below yF5 bq
  have oY6:=Own.below oY5 bq
  clear pI5 pF5 oB5 xI5 xF5 oX5 yI5 yF5 oY5 k5 bq
  clear yI6 yF6 oY6
  have a0:=(show _ = some (Value.string who.1) from oB6.cell rfl (j:=0) (by omega))
  have a1:=(show _ = some (Value.string who.2) from oB6.cell rfl (j:=1) (by omega))
  have a2:=(show _ = some (Value.slice I is.length ci) from oB6.cell rfl (j:=2) (by omega))
  have a3:=(show _ = some (Value.slice F fs.length cf) from oB6.cell rfl (j:=3) (by omega))
  have a4:=(show _ = some (Value.int .i64 nx) from oB6.cell rfl (j:=4) (by omega))
  go_wp2_with fail
  refine (implBridgeValid_any who I ci is F cf fs nx v6 v6.heap.size (OwnE.rd pI6) (OwnE.rd pF6) (Nat.le_refl _) (by omega) (by omega) hcI HIZ.out HFZ.out hw0m hw1m).mono ?_
  rintro e v7 ⟨rfl,bq⟩
  clear a0 a1 a2 a3 a4
  have z7:=bq.size
  have k7:=k6.trans (bq.mono k6.size)
  have zw7:=k7.size
  have pI7:=Own.below pI6 bq
  have pF7:=Own.below pF6 bq
  have oB7:=Own.below oB6 bq
  have xI7:=Own.below xI6 bq
  have xF7:=Own.below xF6 bq
  have oX7:=Own.below oX6 bq
  clear pI6 pF6 oB6 xI6 xF6 oX6 k6 bq
  cases hv : brB who is fs nx
  ·have e : r = ((({ data:=#[] },{ data:=#[] }),[],[],0),{ data:=#[] }):=HR.out.trans (if_neg (by rintro h; have h : brB who is fs nx = true:=h; rw [hv] at h; cases h))
   subst e
   clear hv HR
   have a0:=(show _ = some (Value.string { data:=#[] }) from oX7.cell rfl (j:=0) (by omega))
   have a1:=(show _ = some (Value.string { data:=#[] }) from oX7.cell rfl (j:=1) (by omega))
   have a2:=(show _ = some (Value.slice Ix 0 cx) from oX7.cell rfl (j:=2) (by omega))
   have a3:=(show _ = some (Value.slice Fx 0 dx) from oX7.cell rfl (j:=3) (by omega))
   have a4:=(show _ = some (Value.int .i64 0) from oX7.cell rfl (j:=4) (by omega))
   go_wp2_with fail
   refine (sameBridge_self ({ data:=#[] },{ data:=#[] }) Ix cx [] Fx dx [] 0 none none 0 0 v7 v7.heap.size (OwnE.rd xI7) (OwnE.rd xF7) (Nat.le_refl _) RdE.nil RdE.nil (by simp) (by simp)).mono ?_
   rintro e v8 ⟨rfl,bq⟩
   clear a0 a1 a2 a3 a4
   have z8:=bq.size
   have k8:=k7.trans (bq.mono k7.size)
   have zw8:=k8.size
   have pI8:=Own.below pI7 bq
   have pF8:=Own.below pF7 bq
   have oB8:=Own.below oB7 bq
   have xI8:=Own.below xI7 bq
   have xF8:=Own.below xF7 bq
   have oX8:=Own.below oX7 bq
   clear pI7 pF7 oB7 xI7 xF7 oX7 k7 bq
   go_wp2_with (go_at_call 17; refine (alive_any _).mono ?_; rintro e w' ⟨rfl,rfl⟩)
   go_ret
   exact ⟨rfl,k8⟩
  ·have HV:=Lib.hid (show brvB (who,is,fs,nx) = true from hv)
   have HL:=Lib.hid (HR.out.trans (if_pos HV.out))
   have HX:=Lib.hid (show brvB r.1 = true by rw [HL.out]; exact blOf_valid HV.out)
   have ht : Told (who,is,fs,nx) r:=by rw [HL.out]; exact told_line HV.out
   obtain ⟨hrz,ht⟩:=ht
   obtain ⟨n0,n1⟩:=inB_of (brv_of HV.out).2.2.2
   have n0 : 0 ≤ nx:=n0
   have n1 : nx ≤ 1000000:=n1
   clear hv
   have HXV:=Lib.hid (brv_of HX.out)
   have hx1 : r.1.1.1.size ≤ maxLen:=by have:=(hv_sizes HXV.out.1).1.2; unfold maxLen; omega
   have hx2 : r.1.1.2.size ≤ maxLen:=by have:=(hv_sizes HXV.out.1).2.2; unfold maxLen; omega
   have hvx:=fun W h h2 hB hcx => implBridgeValid_any r.1.1 Ix cx r.1.2.1 Fx dx r.1.2.2.1 r.1.2.2.2 W W.heap.size h h2 hB (by omega) (by omega) hcx (fd_sz HXV.out.2.1) (fv_sz HXV.out.2.2.1) hx1 hx2
   rw [show brB r.1.1 r.1.2.1 r.1.2.2.1 r.1.2.2.2 = true from HX.out] at hvx
   have HVX:=Lib.hid hvx
   clear hvx
   rcases ht with ⟨t1,t2,t3⟩ | ⟨t1,t2,t3,t4,t5⟩
   ·have hra:=fun W hT => implReadActivity_any r.2 W (by omega) hT
    rw [t3] at hra
    have HRA:=Lib.hid hra
    have g1 : decide (nx < r.1.2.2.2) = false:=decide_eq_false (by rw [t1]; exact Int.lt_irrefl _)
    have g2 : (r.1.2.2.2 == nx) = true:=by rw [beq_iff_eq]; exact t1
    replace t2 : r.1.2.1 = is:=t2
    have hsf:=fun W h h2 => sameFeed_any Ix I cx ci W.heap.size r.1.2.1 is W h h2 (Nat.le_refl _) (by omega) (by omega)
    rw [show sameB r.1.2.1 is = true by rw [t2]; exact sameB_self is] at hsf
    have HSF:=Lib.hid hsf
    clear hra hsf t1 t2 t3
    go_wp2_with fail
    refine (HRA.out v7 (HT.out.below k7 (Nat.le_refl _))).mono ?_
    rintro e v8 ⟨rfl,bq⟩
    have z8:=bq.size
    have k8:=k7.trans (bq.mono k7.size)
    have zw8:=k8.size
    have pI8:=Own.below pI7 bq
    have pF8:=Own.below pF7 bq
    have oB8:=Own.below oB7 bq
    have xI8:=Own.below xI7 bq
    have xF8:=Own.below xF7 bq
    have oX8:=Own.below oX7 bq
    clear pI7 pF7 oB7 xI7 xF7 oX7 k7 bq
    have oT9 : Own (v8.alloc (.cells #[Value.int .i64 (raOf r.2).1,Value.int .i64 (raOf r.2).2.1,Value.string (raOf r.2).2.2.1,Value.string (raOf r.2).2.2.2.1,Value.string (raOf r.2).2.2.2.2] 45)) v8.heap.size 45 5 (some ⟨v8.heap.size,0,none⟩) 1 1 (acF (raOf r.2).1 (raOf r.2).2.1 (raOf r.2).2.2.1 (raOf r.2).2.2.2.1 (raOf r.2).2.2.2.2):=Own.lit v8 45 5 1 #[Value.int .i64 (raOf r.2).1,Value.int .i64 (raOf r.2).2.1,Value.string (raOf r.2).2.2.1,Value.string (raOf r.2).2.2.2.1,Value.string (raOf r.2).2.2.2.2] (acF (raOf r.2).1 (raOf r.2).2.1 (raOf r.2).2.2.1 (raOf r.2).2.2.2.1 (raOf r.2).2.2.2.2) (by simp only [maxLen]; omega) rfl
    have bb : Below v8.heap.size v8 (v8.alloc (.cells #[Value.int .i64 (raOf r.2).1,Value.int .i64 (raOf r.2).2.1,Value.string (raOf r.2).2.2.1,Value.string (raOf r.2).2.2.2.1,Value.string (raOf r.2).2.2.2.2] 45)):=(Below.refl _ _).alloc (Nat.le_refl _) _
    have z9:=bb.size
    have k9:=k8.trans (bb.mono k8.size)
    have zw9:=k9.size
    have pI9:=Own.below pI8 bb
    have pF9:=Own.below pF8 bb
    have oB9:=Own.below oB8 bb
    have xI9:=Own.below xI8 bb
    have xF9:=Own.below xF8 bb
    have oX9:=Own.below oX8 bb
    clear pI8 pF8 oB8 xI8 xF8 oX8 k8 bb
    go_upto_region 11 with fail
    generalize (v8.alloc (.cells #[Value.int .i64 (raOf r.2).1,Value.int .i64 (raOf r.2).2.1,Value.string (raOf r.2).2.2.1,Value.string (raOf r.2).2.2.2.1,Value.string (raOf r.2).2.2.2.2] 45)) = v9 at *
    have zb_oT:=(oT9.lt (b:=v8.heap.size) rfl).2
    have a0:=(show _ = some (Value.string who.1) from oB9.cell rfl (j:=0) (by omega))
    have a1:=(show _ = some (Value.string who.2) from oB9.cell rfl (j:=1) (by omega))
    have a2:=(show _ = some (Value.slice I is.length ci) from oB9.cell rfl (j:=2) (by omega))
    have a3:=(show _ = some (Value.slice F fs.length cf) from oB9.cell rfl (j:=3) (by omega))
    have a4:=(show _ = some (Value.int .i64 nx) from oB9.cell rfl (j:=4) (by omega))
    have x0:=(show _ = some (Value.string r.1.1.1) from oX9.cell rfl (j:=0) (by omega))
    have x1:=(show _ = some (Value.string r.1.1.2) from oX9.cell rfl (j:=1) (by omega))
    have x2:=(show _ = some (Value.slice Ix r.1.2.1.length cx) from oX9.cell rfl (j:=2) (by omega))
    have x3:=(show _ = some (Value.slice Fx r.1.2.2.1.length dx) from oX9.cell rfl (j:=3) (by omega))
    have x4:=(show _ = some (Value.int .i64 r.1.2.2.2) from oX9.cell rfl (j:=4) (by omega))
    go_wp2_with fail
    refine (HVX.out v9 (OwnE.rd xI9) (OwnE.rd xF9) (Nat.le_refl _) (OwnE.capLe xI9)).mono ?_
    rintro e v10 ⟨rfl,bq⟩
    have z10:=bq.size
    have k10:=k9.trans (bq.mono k9.size)
    have zw10:=k10.size
    have pI10:=Own.below pI9 bq
    have pF10:=Own.below pF9 bq
    have oB10:=Own.below oB9 bq
    have xI10:=Own.below xI9 bq
    have xF10:=Own.below xF9 bq
    have oX10:=Own.below oX9 bq
    have oT10:=Own.below oT9 bq
    clear pI9 pF9 oB9 xI9 xF9 oX9 oT9 k9 bq
    clear a0 a1 a2 a3 a4 x0 x1 x2 x3 x4
    have a0:=(show _ = some (Value.string who.1) from oB10.cell rfl (j:=0) (by omega))
    have a1:=(show _ = some (Value.string who.2) from oB10.cell rfl (j:=1) (by omega))
    have a2:=(show _ = some (Value.slice I is.length ci) from oB10.cell rfl (j:=2) (by omega))
    have a3:=(show _ = some (Value.slice F fs.length cf) from oB10.cell rfl (j:=3) (by omega))
    have a4:=(show _ = some (Value.int .i64 nx) from oB10.cell rfl (j:=4) (by omega))
    have x0:=(show _ = some (Value.string r.1.1.1) from oX10.cell rfl (j:=0) (by omega))
    have x1:=(show _ = some (Value.string r.1.1.2) from oX10.cell rfl (j:=1) (by omega))
    have x2:=(show _ = some (Value.slice Ix r.1.2.1.length cx) from oX10.cell rfl (j:=2) (by omega))
    have x3:=(show _ = some (Value.slice Fx r.1.2.2.1.length dx) from oX10.cell rfl (j:=3) (by omega))
    have x4:=(show _ = some (Value.int .i64 r.1.2.2.2) from oX10.cell rfl (j:=4) (by omega))
    have t0:=(show _ = some (Value.int .i64 (raOf r.2).1) from oT10.cell rfl (j:=0) (by omega))
    have t1:=(show _ = some (Value.int .i64 (raOf r.2).2.1) from oT10.cell rfl (j:=1) (by omega))
    have t2:=(show _ = some (Value.string (raOf r.2).2.2.1) from oT10.cell rfl (j:=2) (by omega))
    have t3:=(show _ = some (Value.string (raOf r.2).2.2.2.1) from oT10.cell rfl (j:=3) (by omega))
    have t4:=(show _ = some (Value.string (raOf r.2).2.2.2.2) from oT10.cell rfl (j:=4) (by omega))
    go_wp2_with fail
    refine (HSF.out v10 (OwnE.rd xI10) (OwnE.rd pI10)).mono ?_
    rintro e v11 ⟨rfl,bq⟩
    have z11:=bq.size
    have k11:=k10.trans (bq.mono k10.size)
    have zw11:=k11.size
    have pI11:=Own.below pI10 bq
    have pF11:=Own.below pF10 bq
    have oB11:=Own.below oB10 bq
    have xI11:=Own.below xI10 bq
    have xF11:=Own.below xF10 bq
    have oX11:=Own.below oX10 bq
    have oT11:=Own.below oT10 bq
    clear pI10 pF10 oB10 xI10 xF10 oX10 oT10 k10 bq
    clear a0 a1 a2 a3 a4 x0 x1 x2 x3 x4 t0 t1 t2 t3 t4
    have a0:=(show _ = some (Value.string who.1) from oB11.cell rfl (j:=0) (by omega))
    have a1:=(show _ = some (Value.string who.2) from oB11.cell rfl (j:=1) (by omega))
    have a2:=(show _ = some (Value.slice I is.length ci) from oB11.cell rfl (j:=2) (by omega))
    have a3:=(show _ = some (Value.slice F fs.length cf) from oB11.cell rfl (j:=3) (by omega))
    have a4:=(show _ = some (Value.int .i64 nx) from oB11.cell rfl (j:=4) (by omega))
    have x0:=(show _ = some (Value.string r.1.1.1) from oX11.cell rfl (j:=0) (by omega))
    have x1:=(show _ = some (Value.string r.1.1.2) from oX11.cell rfl (j:=1) (by omega))
    have x2:=(show _ = some (Value.slice Ix r.1.2.1.length cx) from oX11.cell rfl (j:=2) (by omega))
    have x3:=(show _ = some (Value.slice Fx r.1.2.2.1.length dx) from oX11.cell rfl (j:=3) (by omega))
    have x4:=(show _ = some (Value.int .i64 r.1.2.2.2) from oX11.cell rfl (j:=4) (by omega))
    have t0:=(show _ = some (Value.int .i64 (raOf r.2).1) from oT11.cell rfl (j:=0) (by omega))
    have t1:=(show _ = some (Value.int .i64 (raOf r.2).2.1) from oT11.cell rfl (j:=1) (by omega))
    have t2:=(show _ = some (Value.string (raOf r.2).2.2.1) from oT11.cell rfl (j:=2) (by omega))
    have t3:=(show _ = some (Value.string (raOf r.2).2.2.2.1) from oT11.cell rfl (j:=3) (by omega))
    have t4:=(show _ = some (Value.string (raOf r.2).2.2.2.2) from oT11.cell rfl (j:=4) (by omega))
    go_wp2_with fail
    go_ret
    exact ⟨rfl,k11⟩
   ·have hra:=fun W hT => implReadActivity_any r.2 W (by omega) hT
    rw [t2] at hra
    have HRA:=Lib.hid hra
    replace t1 : r.1.2.2.2 = nx + 1:=t1
    replace t3 : (raOf r.2).2.1 = nx:=t3
    replace t4 : ((raOf r.2).2.2.1,(raOf r.2).2.2.2.1) = who:=t4
    replace t5 : r.1.2.2.1 = fs:=t5
    have g1 : decide (nx < r.1.2.2.2) = true:=decide_eq_true (by rw [t1]; omega)
    have g2 : (r.1.2.2.2 == nx + 1) = true:=by rw [beq_iff_eq]; exact t1
    have g3 : ((raOf r.2).2.1 == nx) = true:=by rw [beq_iff_eq]; exact t3
    have heq:=fun W => eql_Handle (raOf r.2).2.2.1 (raOf r.2).2.2.2.1 who.1 who.2 W
    rw [show eqEl (α:=ElHandle) ((raOf r.2).2.2.1,(raOf r.2).2.2.2.1) (who.1,who.2) = true from eqEl_true t4] at heq
    have hgd:=guard_Handle
    have hsf:=fun W h h2 => sameHandles_any Fx F dx cf W.heap.size r.1.2.2.1 fs W h h2 (Nat.le_refl _) (by omega) (by omega)
    rw [show sameB r.1.2.2.1 fs = true by rw [t5]; exact sameB_self fs] at hsf
    have HSF:=Lib.hid hsf
    clear hra hsf t1 t2 t3 t4 t5
    go_wp2_with fail
    refine (HRA.out v7 (HT.out.below k7 (Nat.le_refl _))).mono ?_
    rintro e v8 ⟨rfl,bq⟩
    have z8:=bq.size
    have k8:=k7.trans (bq.mono k7.size)
    have zw8:=k8.size
    have pI8:=Own.below pI7 bq
    have pF8:=Own.below pF7 bq
    have oB8:=Own.below oB7 bq
    have xI8:=Own.below xI7 bq
    have xF8:=Own.below xF7 bq
    have oX8:=Own.below oX7 bq
    clear pI7 pF7 oB7 xI7 xF7 oX7 k7 bq
    have oT9 : Own (v8.alloc (.cells #[Value.int .i64 (raOf r.2).1,Value.int .i64 (raOf r.2).2.1,Value.string (raOf r.2).2.2.1,Value.string (raOf r.2).2.2.2.1,Value.string (raOf r.2).2.2.2.2] 45)) v8.heap.size 45 5 (some ⟨v8.heap.size,0,none⟩) 1 1 (acF (raOf r.2).1 (raOf r.2).2.1 (raOf r.2).2.2.1 (raOf r.2).2.2.2.1 (raOf r.2).2.2.2.2):=Own.lit v8 45 5 1 #[Value.int .i64 (raOf r.2).1,Value.int .i64 (raOf r.2).2.1,Value.string (raOf r.2).2.2.1,Value.string (raOf r.2).2.2.2.1,Value.string (raOf r.2).2.2.2.2] (acF (raOf r.2).1 (raOf r.2).2.1 (raOf r.2).2.2.1 (raOf r.2).2.2.2.1 (raOf r.2).2.2.2.2) (by simp only [maxLen]; omega) rfl
    have bb : Below v8.heap.size v8 (v8.alloc (.cells #[Value.int .i64 (raOf r.2).1,Value.int .i64 (raOf r.2).2.1,Value.string (raOf r.2).2.2.1,Value.string (raOf r.2).2.2.2.1,Value.string (raOf r.2).2.2.2.2] 45)):=(Below.refl _ _).alloc (Nat.le_refl _) _
    have z9:=bb.size
    have k9:=k8.trans (bb.mono k8.size)
    have zw9:=k9.size
    have pI9:=Own.below pI8 bb
    have pF9:=Own.below pF8 bb
    have oB9:=Own.below oB8 bb
    have xI9:=Own.below xI8 bb
    have xF9:=Own.below xF8 bb
    have oX9:=Own.below oX8 bb
    clear pI8 pF8 oB8 xI8 xF8 oX8 k8 bb
    go_upto_region 11 with fail
    generalize (v8.alloc (.cells #[Value.int .i64 (raOf r.2).1,Value.int .i64 (raOf r.2).2.1,Value.string (raOf r.2).2.2.1,Value.string (raOf r.2).2.2.2.1,Value.string (raOf r.2).2.2.2.2] 45)) = v9 at *
    have zb_oT:=(oT9.lt (b:=v8.heap.size) rfl).2
    have a0:=(show _ = some (Value.string who.1) from oB9.cell rfl (j:=0) (by omega))
    have a1:=(show _ = some (Value.string who.2) from oB9.cell rfl (j:=1) (by omega))
    have a2:=(show _ = some (Value.slice I is.length ci) from oB9.cell rfl (j:=2) (by omega))
    have a3:=(show _ = some (Value.slice F fs.length cf) from oB9.cell rfl (j:=3) (by omega))
    have a4:=(show _ = some (Value.int .i64 nx) from oB9.cell rfl (j:=4) (by omega))
    have x0:=(show _ = some (Value.string r.1.1.1) from oX9.cell rfl (j:=0) (by omega))
    have x1:=(show _ = some (Value.string r.1.1.2) from oX9.cell rfl (j:=1) (by omega))
    have x2:=(show _ = some (Value.slice Ix r.1.2.1.length cx) from oX9.cell rfl (j:=2) (by omega))
    have x3:=(show _ = some (Value.slice Fx r.1.2.2.1.length dx) from oX9.cell rfl (j:=3) (by omega))
    have x4:=(show _ = some (Value.int .i64 r.1.2.2.2) from oX9.cell rfl (j:=4) (by omega))
    go_wp2_with fail
    refine (HVX.out v9 (OwnE.rd xI9) (OwnE.rd xF9) (Nat.le_refl _) (OwnE.capLe xI9)).mono ?_
    rintro e v10 ⟨rfl,bq⟩
    have z10:=bq.size
    have k10:=k9.trans (bq.mono k9.size)
    have zw10:=k10.size
    have pI10:=Own.below pI9 bq
    have pF10:=Own.below pF9 bq
    have oB10:=Own.below oB9 bq
    have xI10:=Own.below xI9 bq
    have xF10:=Own.below xF9 bq
    have oX10:=Own.below oX9 bq
    have oT10:=Own.below oT9 bq
    clear pI9 pF9 oB9 xI9 xF9 oX9 oT9 k9 bq
    clear a0 a1 a2 a3 a4 x0 x1 x2 x3 x4
    have a0:=(show _ = some (Value.string who.1) from oB10.cell rfl (j:=0) (by omega))
    have a1:=(show _ = some (Value.string who.2) from oB10.cell rfl (j:=1) (by omega))
    have a2:=(show _ = some (Value.slice I is.length ci) from oB10.cell rfl (j:=2) (by omega))
    have a3:=(show _ = some (Value.slice F fs.length cf) from oB10.cell rfl (j:=3) (by omega))
    have a4:=(show _ = some (Value.int .i64 nx) from oB10.cell rfl (j:=4) (by omega))
    have x0:=(show _ = some (Value.string r.1.1.1) from oX10.cell rfl (j:=0) (by omega))
    have x1:=(show _ = some (Value.string r.1.1.2) from oX10.cell rfl (j:=1) (by omega))
    have x2:=(show _ = some (Value.slice Ix r.1.2.1.length cx) from oX10.cell rfl (j:=2) (by omega))
    have x3:=(show _ = some (Value.slice Fx r.1.2.2.1.length dx) from oX10.cell rfl (j:=3) (by omega))
    have x4:=(show _ = some (Value.int .i64 r.1.2.2.2) from oX10.cell rfl (j:=4) (by omega))
    have t0:=(show _ = some (Value.int .i64 (raOf r.2).1) from oT10.cell rfl (j:=0) (by omega))
    have t1:=(show _ = some (Value.int .i64 (raOf r.2).2.1) from oT10.cell rfl (j:=1) (by omega))
    have t2:=(show _ = some (Value.string (raOf r.2).2.2.1) from oT10.cell rfl (j:=2) (by omega))
    have t3:=(show _ = some (Value.string (raOf r.2).2.2.2.1) from oT10.cell rfl (j:=3) (by omega))
    have t4:=(show _ = some (Value.string (raOf r.2).2.2.2.2) from oT10.cell rfl (j:=4) (by omega))
    go_wp2_with fail
    refine (HSF.out v10 (OwnE.rd xF10) (OwnE.rd pF10)).mono ?_
    rintro e v11 ⟨rfl,bq⟩
    have z11:=bq.size
    have k11:=k10.trans (bq.mono k10.size)
    have zw11:=k11.size
    have pI11:=Own.below pI10 bq
    have pF11:=Own.below pF10 bq
    have oB11:=Own.below oB10 bq
    have xI11:=Own.below xI10 bq
    have xF11:=Own.below xF10 bq
    have oX11:=Own.below oX10 bq
    have oT11:=Own.below oT10 bq
    clear pI10 pF10 oB10 xI10 xF10 oX10 oT10 k10 bq
    clear a0 a1 a2 a3 a4 x0 x1 x2 x3 x4 t0 t1 t2 t3 t4
    have a0:=(show _ = some (Value.string who.1) from oB11.cell rfl (j:=0) (by omega))
    have a1:=(show _ = some (Value.string who.2) from oB11.cell rfl (j:=1) (by omega))
    have a2:=(show _ = some (Value.slice I is.length ci) from oB11.cell rfl (j:=2) (by omega))
    have a3:=(show _ = some (Value.slice F fs.length cf) from oB11.cell rfl (j:=3) (by omega))
    have a4:=(show _ = some (Value.int .i64 nx) from oB11.cell rfl (j:=4) (by omega))
    have x0:=(show _ = some (Value.string r.1.1.1) from oX11.cell rfl (j:=0) (by omega))
    have x1:=(show _ = some (Value.string r.1.1.2) from oX11.cell rfl (j:=1) (by omega))
    have x2:=(show _ = some (Value.slice Ix r.1.2.1.length cx) from oX11.cell rfl (j:=2) (by omega))
    have x3:=(show _ = some (Value.slice Fx r.1.2.2.1.length dx) from oX11.cell rfl (j:=3) (by omega))
    have x4:=(show _ = some (Value.int .i64 r.1.2.2.2) from oX11.cell rfl (j:=4) (by omega))
    have t0:=(show _ = some (Value.int .i64 (raOf r.2).1) from oT11.cell rfl (j:=0) (by omega))
    have t1:=(show _ = some (Value.int .i64 (raOf r.2).2.1) from oT11.cell rfl (j:=1) (by omega))
    have t2:=(show _ = some (Value.string (raOf r.2).2.2.1) from oT11.cell rfl (j:=2) (by omega))
    have t3:=(show _ = some (Value.string (raOf r.2).2.2.2.1) from oT11.cell rfl (j:=3) (by omega))
    have t4:=(show _ = some (Value.string (raOf r.2).2.2.2.2) from oT11.cell rfl (j:=4) (by omega))
    go_wp2_with fail
    go_ret
    exact ⟨rfl,k11⟩
 ·have hd : decide (1048576 < (cs.length : Int)) = true:=decide_eq_true (by omega)
  go_enter Tryz.func4,Tryz.ntmps4
  go_wp2_with fail
  go_ret
  exact ⟨rfl,Below.refl _ _⟩
end Go.Proofs.YtfnmlffpnmmcdaaGreatDoor
