/- Parts of the proof, merged: HtB RiB UfB Kept FollowF. -/
import Derived.Test.YtfnmlffpnmmcdaaGreatDoorMn4
import Derived.RegionTactic
import Derived.Test.YtfnmlffpnmmcdaaGreatDoorMn3
import Derived.Test.YtfnmlffpnmmcdaaGreatDoorMn1
import Derived.Test.YtfnmlffpnmmcdaaGreatDoorMn6
import Derived.Deep.RegionHeld3
namespace Go.Proofs.YtfnmlffpnmmcdaaGreatDoor
set_option maxRecDepth 100000
open Go.RowKit
set_option maxHeartbeats 1600000 in
theorem specReadHandle_any (s : ByteArray) (w : World) (hs : s.size ≤ maxLen) : Calls Tryz.prog 35 #[.string s] w fun e w' => e = .returned (.tuple #[.agg #[.string (rhOf s).1,.string (rhOf s).2],.bool (rhOk s)]) ∧ Below w.heap.size w w':=by
 have hsm:=hs
 unfold maxLen at hs
 have oR : OwnE 2 encHandle 29 (w.alloc (.cells #[.string { data:=#[] },.string { data:=#[] }] 29)) w.heap.size (some ⟨w.heap.size,0,none⟩) 1 [({ data:=#[] },{ data:=#[] })]:=Own.lit w 29 2 1 #[.string { data:=#[] },.string { data:=#[] }] (cE 2 encHandle [({ data:=#[] },{ data:=#[] })]) (by simp only [maxLen]; omega) rfl
 have hbA : Below w.heap.size w (w.alloc (.cells #[.string { data:=#[] },.string { data:=#[] }] 29)):=(Below.refl _ _).alloc (Nat.le_refl _) _
 have hzA : w.heap.size < (w.alloc (.cells #[.string { data:=#[] },.string { data:=#[] }] 29)).heap.size:=by simp
 have hbb:=bb_eq s
 by_cases hp : 1 ≤ s.size
 ·go_enter Tryz.func35,Tryz.ntmps35
  go_wp2_with fail
  generalize (w.alloc (.cells #[.string { data:=#[] },.string { data:=#[] }] 29)) = wA at *
  go_loop [4] (fun i => ∃ k : Nat,1 ≤ k ∧ k ≤ s.size ∧ Hid (rhK s = fb s 64 k) ∧ i = .int .i64 k) (fun i => s.size - (intOf i).toNat)
  case atStart => exact ⟨1,Nat.le_refl _,hp,Lib.hid rfl,rfl⟩
  case round =>
   obtain ⟨k,hk1,hk,hK,rfl⟩:=hrel
   by_cases hlt : k < s.size
   ·by_cases hc : bb s k = 64
    ·have e1 : (bb s k != 64) = false:=by simp [hc]
     have hKk : rhK s = k:=hK.out.trans (fb_here hlt hc)
     have hH : rhH s = (s.extract 1 k,s.extract (k + 1) s.size):=by unfold rhH; rw [hKk]
     have hw2 : IntKind.i64.wrap ((k : Int) + 1) = (k : Int) + 1:=IntWalk.i64_in _ (by omega)
     have hkt : ((k : Int) + 1).toNat = k + 1:=by omega
     have hk3 : (0 : Int) ≤ (k : Int) + 1:=by omega
     have hk4 : (k : Int) + 1 ≤ (s.size : Int):=by omega
     have hk5 : (1 : Int) ≤ (k : Int):=by omega
     have hk6 : (k : Int) ≤ (s.size : Int):=by omega
     have hn1 : (s.extract 1 k).size ≤ maxLen:=by rw [ByteArray.size_extract]; omega
     have hn2 : (s.extract (k + 1) s.size).size ≤ maxLen:=by rw [ByteArray.size_extract]; omega
     have hcall:=fun W => specHandleValid_b (s.extract 1 k) (s.extract (k + 1) s.size) W hn1 hn2
     rw [← hH] at hcall
     have hcall2:=fun W => specHandleText_any (s.extract 1 k) (s.extract (k + 1) s.size) W hn1 hn2
     rw [← hH] at hcall2
     cases hv : hvB (rhH s)
     ·skip
      have hok:=rhOk_no3 hv
      have HQ:=Lib.hid (show rhOf s = ({ data:=#[] },{ data:=#[] }) ∧ rhOk s = false from ⟨rhOf_no hok,hok⟩)
      rw [hv] at hcall
      have HC:=Lib.hid hcall
      clear hcall hcall2 hv hok hH hKk hK hc
      go_wp2_with fail
      go_region
      have oR2 : OwnE 2 encHandle 29 ((wA.alloc (.cells #[.string (s.extract 1 k),.string (s.extract (k + 1) s.size)] 29)).drew) w.heap.size (some ⟨w.heap.size,0,none⟩) 1 [({ data:=#[] },{ data:=#[] })]:=Own.below oR (((Below.refl _ _).alloc (Nat.le_refl _) (.cells #[.string (s.extract 1 k),.string (s.extract (k + 1) s.size)] 29)).drew)
      have k2 : Below w.heap.size w ((wA.alloc (.cells #[.string (s.extract 1 k),.string (s.extract (k + 1) s.size)] 29)).drew):=(hbA.alloc hbA.size (.cells #[.string (s.extract 1 k),.string (s.extract (k + 1) s.size)] 29)).drew
      have z2 : wA.heap.size < ((wA.alloc (.cells #[.string (s.extract 1 k),.string (s.extract (k + 1) s.size)] 29)).drew).heap.size:=by show wA.heap.size < (wA.alloc (.cells #[.string (s.extract 1 k),.string (s.extract (k + 1) s.size)] 29)).heap.size; simp
      have p0 : ((wA.alloc (.cells #[.string (s.extract 1 k),.string (s.extract (k + 1) s.size)] 29)).drew).cell? ⟨wA.heap.size,0,none⟩ = some (Value.string (s.extract 1 k)):=by show (wA.alloc (.cells #[.string (s.extract 1 k),.string (s.extract (k + 1) s.size)] 29)).cell? _ = _; rw [World.cell?_alloc_at _ _ _ _ rfl]; rfl
      have p1 : ((wA.alloc (.cells #[.string (s.extract 1 k),.string (s.extract (k + 1) s.size)] 29)).drew).cell? ⟨wA.heap.size,1,none⟩ = some (Value.string (s.extract (k + 1) s.size)):=by show (wA.alloc (.cells #[.string (s.extract 1 k),.string (s.extract (k + 1) s.size)] 29)).cell? _ = _; rw [World.cell?_alloc_at _ _ _ _ rfl]; rfl
      go_wp2_with fail
      generalize ((wA.alloc (.cells #[.string (s.extract 1 k),.string (s.extract (k + 1) s.size)] 29)).drew) = w2 at *
      refine (HC.out w2).mono ?_
      rintro e w3 ⟨rfl,b3⟩
      have oR3:=Own.below oR2 b3
      have k3:=k2.trans (b3.mono k2.size)
      have z3 : wA.heap.size < w3.heap.size:=by have:=b3.size; omega
      have p0x:=(b3.cell (p:=⟨wA.heap.size,0,none⟩) z2).trans p0
      have p1x:=(b3.cell (p:=⟨wA.heap.size,1,none⟩) z2).trans p1
      clear p0 p1 oR oR2
      have r0:=oR3.cell (b:=w.heap.size) rfl (j:=0) (by simp)
      have r1:=oR3.cell (b:=w.heap.size) rfl (j:=1) (by simp)
      have rf0:=oR3.frozen (b:=w.heap.size) rfl 0
      have rf1:=oR3.frozen (b:=w.heap.size) rfl 1
      have r0 : _ = some (Value.string { data:=#[] }):=r0
      have r1 : _ = some (Value.string { data:=#[] }):=r1
      go_wp2_with fail
      exact bodyPost_ret (v:=.tuple #[.agg #[.string { data:=#[] },.string { data:=#[] }],.bool false]) (by simp [results,Tryz.results35,go_sem,r0,r1]) rfl ⟨by rw [HQ.out.1,HQ.out.2],((k3.setCell (p:=⟨w.heap.size,0,none⟩) (Nat.le_refl _) _).setCell (p:=⟨w.heap.size,1,none⟩) (Nat.le_refl _) _)⟩
     ·rw [hv] at hcall
      have HC:=Lib.hid hcall
      have HC2:=Lib.hid hcall2
      clear hcall hcall2
      by_cases h0 : bb s 0 = 64
      ·have hok:=rhOk_yes h0 (by omega) hv
       have HQ:=Lib.hid (show rhOf s = (s.extract 1 k,s.extract (k + 1) s.size) ∧ rhOk s = true from ⟨(rhOf_yes hok).trans hH,hok⟩)
       have hne : ((htOf (rhH s)).toList != s.toList) = false:=by rw [ht_rh h0 (by omega) hv]; simp
       have hne2 : ((htOf (rhH s)).toList == s.toList) = true:=by rw [ht_rh h0 (by omega) hv]; simp
       clear hok hH hKk hK hc hv h0
       go_wp2_with fail
       go_region
       have oR2 : OwnE 2 encHandle 29 ((wA.alloc (.cells #[.string (s.extract 1 k),.string (s.extract (k + 1) s.size)] 29)).drew) w.heap.size (some ⟨w.heap.size,0,none⟩) 1 [({ data:=#[] },{ data:=#[] })]:=Own.below oR (((Below.refl _ _).alloc (Nat.le_refl _) (.cells #[.string (s.extract 1 k),.string (s.extract (k + 1) s.size)] 29)).drew)
       have k2 : Below w.heap.size w ((wA.alloc (.cells #[.string (s.extract 1 k),.string (s.extract (k + 1) s.size)] 29)).drew):=(hbA.alloc hbA.size (.cells #[.string (s.extract 1 k),.string (s.extract (k + 1) s.size)] 29)).drew
       have z2 : wA.heap.size < ((wA.alloc (.cells #[.string (s.extract 1 k),.string (s.extract (k + 1) s.size)] 29)).drew).heap.size:=by show wA.heap.size < (wA.alloc (.cells #[.string (s.extract 1 k),.string (s.extract (k + 1) s.size)] 29)).heap.size; simp
       have p0 : ((wA.alloc (.cells #[.string (s.extract 1 k),.string (s.extract (k + 1) s.size)] 29)).drew).cell? ⟨wA.heap.size,0,none⟩ = some (Value.string (s.extract 1 k)):=by show (wA.alloc (.cells #[.string (s.extract 1 k),.string (s.extract (k + 1) s.size)] 29)).cell? _ = _; rw [World.cell?_alloc_at _ _ _ _ rfl]; rfl
       have p1 : ((wA.alloc (.cells #[.string (s.extract 1 k),.string (s.extract (k + 1) s.size)] 29)).drew).cell? ⟨wA.heap.size,1,none⟩ = some (Value.string (s.extract (k + 1) s.size)):=by show (wA.alloc (.cells #[.string (s.extract 1 k),.string (s.extract (k + 1) s.size)] 29)).cell? _ = _; rw [World.cell?_alloc_at _ _ _ _ rfl]; rfl
       go_wp2_with fail
       generalize ((wA.alloc (.cells #[.string (s.extract 1 k),.string (s.extract (k + 1) s.size)] 29)).drew) = w2 at *
       refine (HC.out w2).mono ?_
       rintro e w3 ⟨rfl,b3⟩
       have oR3:=Own.below oR2 b3
       have k3:=k2.trans (b3.mono k2.size)
       have z3 : wA.heap.size < w3.heap.size:=by have:=b3.size; omega
       have p0x:=(b3.cell (p:=⟨wA.heap.size,0,none⟩) z2).trans p0
       have p1x:=(b3.cell (p:=⟨wA.heap.size,1,none⟩) z2).trans p1
       clear p0 p1 oR oR2
       go_wp2_with fail
       refine (HC2.out w3).mono ?_
       rintro e w4 ⟨rfl,b4⟩
       have oR4:=Own.below oR3 b4
       have k4:=k3.trans (b4.mono k3.size)
       have p0y:=(b4.cell (p:=⟨wA.heap.size,0,none⟩) z3).trans p0x
       have p1y:=(b4.cell (p:=⟨wA.heap.size,1,none⟩) z3).trans p1x
       have r0:=oR4.cell (b:=w.heap.size) rfl (j:=0) (by simp)
       have r1:=oR4.cell (b:=w.heap.size) rfl (j:=1) (by simp)
       have rf0:=oR4.frozen (b:=w.heap.size) rfl 0
       have rf1:=oR4.frozen (b:=w.heap.size) rfl 1
       have r0 : _ = some (Value.string { data:=#[] }):=r0
       have r1 : _ = some (Value.string { data:=#[] }):=r1
       go_wp2_with fail
       exact bodyPost_ret (v:=.tuple #[.agg #[.string (s.extract 1 k),.string (s.extract (k + 1) s.size)],.bool true]) (by simp [results,Tryz.results35,go_sem,r0,r1]) rfl ⟨by rw [HQ.out.1,HQ.out.2],((k4.setCell (p:=⟨w.heap.size,0,none⟩) (Nat.le_refl _) _).setCell (p:=⟨w.heap.size,1,none⟩) (Nat.le_refl _) _)⟩
      ·skip
       have hok:=rhOk_no1 h0
       have HQ:=Lib.hid (show rhOf s = ({ data:=#[] },{ data:=#[] }) ∧ rhOk s = false from ⟨rhOf_no hok,hok⟩)
       have hne : ((htOf (rhH s)).toList != s.toList) = true:=by rw [seq_neq,seq_false.2 (ht_other h0 hv)]; rfl
       have hne2 : ((htOf (rhH s)).toList == s.toList) = false:=by rw [seq_eql,seq_false.2 (ht_other h0 hv)]
       clear hok hH hKk hK hc hv h0
       go_wp2_with fail
       go_region
       have oR2 : OwnE 2 encHandle 29 ((wA.alloc (.cells #[.string (s.extract 1 k),.string (s.extract (k + 1) s.size)] 29)).drew) w.heap.size (some ⟨w.heap.size,0,none⟩) 1 [({ data:=#[] },{ data:=#[] })]:=Own.below oR (((Below.refl _ _).alloc (Nat.le_refl _) (.cells #[.string (s.extract 1 k),.string (s.extract (k + 1) s.size)] 29)).drew)
       have k2 : Below w.heap.size w ((wA.alloc (.cells #[.string (s.extract 1 k),.string (s.extract (k + 1) s.size)] 29)).drew):=(hbA.alloc hbA.size (.cells #[.string (s.extract 1 k),.string (s.extract (k + 1) s.size)] 29)).drew
       have z2 : wA.heap.size < ((wA.alloc (.cells #[.string (s.extract 1 k),.string (s.extract (k + 1) s.size)] 29)).drew).heap.size:=by show wA.heap.size < (wA.alloc (.cells #[.string (s.extract 1 k),.string (s.extract (k + 1) s.size)] 29)).heap.size; simp
       have p0 : ((wA.alloc (.cells #[.string (s.extract 1 k),.string (s.extract (k + 1) s.size)] 29)).drew).cell? ⟨wA.heap.size,0,none⟩ = some (Value.string (s.extract 1 k)):=by show (wA.alloc (.cells #[.string (s.extract 1 k),.string (s.extract (k + 1) s.size)] 29)).cell? _ = _; rw [World.cell?_alloc_at _ _ _ _ rfl]; rfl
       have p1 : ((wA.alloc (.cells #[.string (s.extract 1 k),.string (s.extract (k + 1) s.size)] 29)).drew).cell? ⟨wA.heap.size,1,none⟩ = some (Value.string (s.extract (k + 1) s.size)):=by show (wA.alloc (.cells #[.string (s.extract 1 k),.string (s.extract (k + 1) s.size)] 29)).cell? _ = _; rw [World.cell?_alloc_at _ _ _ _ rfl]; rfl
       go_wp2_with fail
       generalize ((wA.alloc (.cells #[.string (s.extract 1 k),.string (s.extract (k + 1) s.size)] 29)).drew) = w2 at *
       refine (HC.out w2).mono ?_
       rintro e w3 ⟨rfl,b3⟩
       have oR3:=Own.below oR2 b3
       have k3:=k2.trans (b3.mono k2.size)
       have z3 : wA.heap.size < w3.heap.size:=by have:=b3.size; omega
       have p0x:=(b3.cell (p:=⟨wA.heap.size,0,none⟩) z2).trans p0
       have p1x:=(b3.cell (p:=⟨wA.heap.size,1,none⟩) z2).trans p1
       clear p0 p1 oR oR2
       go_wp2_with fail
       refine (HC2.out w3).mono ?_
       rintro e w4 ⟨rfl,b4⟩
       have oR4:=Own.below oR3 b4
       have k4:=k3.trans (b4.mono k3.size)
       have p0y:=(b4.cell (p:=⟨wA.heap.size,0,none⟩) z3).trans p0x
       have p1y:=(b4.cell (p:=⟨wA.heap.size,1,none⟩) z3).trans p1x
       have r0:=oR4.cell (b:=w.heap.size) rfl (j:=0) (by simp)
       have r1:=oR4.cell (b:=w.heap.size) rfl (j:=1) (by simp)
       have rf0:=oR4.frozen (b:=w.heap.size) rfl 0
       have rf1:=oR4.frozen (b:=w.heap.size) rfl 1
       have r0 : _ = some (Value.string { data:=#[] }):=r0
       have r1 : _ = some (Value.string { data:=#[] }):=r1
       go_wp2_with fail
       exact bodyPost_ret (v:=.tuple #[.agg #[.string { data:=#[] },.string { data:=#[] }],.bool false]) (by simp [results,Tryz.results35,go_sem,r0,r1]) rfl ⟨by rw [HQ.out.1,HQ.out.2],((k4.setCell (p:=⟨w.heap.size,0,none⟩) (Nat.le_refl _) _).setCell (p:=⟨w.heap.size,1,none⟩) (Nat.le_refl _) _)⟩
    ·have e1 : (bb s k != 64) = true:=by simp [hc]
     have HN:=Lib.hid (hK.out.trans (fb_step hlt hc))
     go_wp2_with fail
     go_round
     case rel => exact ⟨k + 1,by omega,by omega,HN,by go_num⟩
     case measure => first | (simp [intOf]; done) | (simp [intOf]; omega)
   ·obtain rfl : k = s.size:=by omega
    have hok:=rhOk_no2 (s:=s) (by rw [hK.out,fb_out (Nat.le_refl _)]; exact Nat.le_refl _)
    have HQ:=Lib.hid (show rhOf s = ({ data:=#[] },{ data:=#[] }) ∧ rhOk s = false from ⟨rhOf_no hok,hok⟩)
    clear hok hK
    have r0:=oR.cell (b:=w.heap.size) rfl (j:=0) (by simp)
    have r1:=oR.cell (b:=w.heap.size) rfl (j:=1) (by simp)
    have rf0:=oR.frozen (b:=w.heap.size) rfl 0
    have rf1:=oR.frozen (b:=w.heap.size) rfl 1
    have r0 : _ = some (Value.string { data:=#[] }):=r0
    have r1 : _ = some (Value.string { data:=#[] }):=r1
    go_wp2_with fail
    exact bodyPost_ret (v:=.tuple #[.agg #[.string { data:=#[] },.string { data:=#[] }],.bool false]) (by simp [results,Tryz.results35,go_sem,r0,r1]) rfl ⟨by rw [HQ.out.1,HQ.out.2],((hbA.setCell (p:=⟨w.heap.size,0,none⟩) (Nat.le_refl _) _).setCell (p:=⟨w.heap.size,1,none⟩) (Nat.le_refl _) _)⟩
 ·have hz : s.size = 0:=by omega
  have hok:=rhOk_no1 (s:=s) (by rw [bb_out (by omega)]; omega)
  have HQ:=Lib.hid (show rhOf s = ({ data:=#[] },{ data:=#[] }) ∧ rhOk s = false from ⟨rhOf_no hok,hok⟩)
  have d1 : decide ((1 : Int) < (s.size : Int)) = false:=decide_eq_false (by omega)
  have d2 : decide ((s.size : Int) ≤ (1 : Int)) = true:=decide_eq_true (by omega)
  have d3 : decide (s.size ≤ 1) = true:=decide_eq_true (by omega)
  clear hok hz
  have r0:=oR.cell (b:=w.heap.size) rfl (j:=0) (by simp)
  have r1:=oR.cell (b:=w.heap.size) rfl (j:=1) (by simp)
  have rf0:=oR.frozen (b:=w.heap.size) rfl 0
  have rf1:=oR.frozen (b:=w.heap.size) rfl 1
  have r0 : _ = some (Value.string { data:=#[] }):=r0
  have r1 : _ = some (Value.string { data:=#[] }):=r1
  go_enter Tryz.func35,Tryz.ntmps35
  go_wp2_with fail
  generalize (w.alloc (.cells #[.string { data:=#[] },.string { data:=#[] }] 29)) = wA at *
  refine wp_loop_rounds 1 ?_
  rw [rounds_succ]
  go_wp2_with fail
  exact bodyPost_ret (v:=.tuple #[.agg #[.string { data:=#[] },.string { data:=#[] }],.bool false]) (by simp [results,Tryz.results35,go_sem,r0,r1]) rfl ⟨by rw [HQ.out.1,HQ.out.2],((hbA.setCell (p:=⟨w.heap.size,0,none⟩) (Nat.le_refl _) _).setCell (p:=⟨w.heap.size,1,none⟩) (Nat.le_refl _) _)⟩
end Go.Proofs.YtfnmlffpnmmcdaaGreatDoor
namespace Go.Proofs.YtfnmlffpnmmcdaaGreatDoor
set_option maxRecDepth 100000
open Go.RowKit
set_option maxHeartbeats 3200000 in
theorem specReadItem_any (s : ByteArray) (w : World) (hs : s.size + 5 ≤ maxLen) : Calls Tryz.prog 39 #[.string s] w fun e w' => e = .returned (.tuple #[.agg #[.string (riOf s).1,.string (riOf s).2.1,.string (riOf s).2.2.1,.int .i64 (riOf s).2.2.2],.bool (riOk s)]) ∧ Below w.heap.size w w':=by
 have oR : OwnE 4 encItem 69 (w.alloc (.cells #[.string { data:=#[] },.string { data:=#[] },.string { data:=#[] },.int .i64 0] 69)) w.heap.size (some ⟨w.heap.size,0,none⟩) 1 [({ data:=#[] },{ data:=#[] },{ data:=#[] },0)]:=Own.lit w 69 4 1 #[.string { data:=#[] },.string { data:=#[] },.string { data:=#[] },.int .i64 0] (cE 4 encItem [({ data:=#[] },{ data:=#[] },{ data:=#[] },0)]) (by simp only [maxLen]; omega) rfl
 have hbA : Below w.heap.size w (w.alloc (.cells #[.string { data:=#[] },.string { data:=#[] },.string { data:=#[] },.int .i64 0] 69)):=(Below.refl _ _).alloc (Nat.le_refl _) _
 have hzA : w.heap.size < (w.alloc (.cells #[.string { data:=#[] },.string { data:=#[] },.string { data:=#[] },.int .i64 0] 69)).heap.size:=by simp
 have hev:=evB_at (elOf_valid s)
 have hl8:=hev.1
 have HEV:=Lib.hid (fun k (hk : k < (elOf s).length) => (show (gt (elOf s) k).1.size ≤ maxLen ∧ (gt (elOf s) k).2.size ≤ maxLen by
  have h:=hev.2 k hk
  unfold eB at h
  rw [Bool.and_eq_true] at h
  have h1:=(Word.of h.1).2.1
  have h2:=(Text.of h.2).1
  unfold maxLen; omega))
 clear hev
 go_enter Tryz.func39,Tryz.ntmps39
 go_wp2_with fail
 generalize (w.alloc (.cells #[.string { data:=#[] },.string { data:=#[] },.string { data:=#[] },.int .i64 0] 69)) = wA at *
 refine (specReadElements_any s wA hs).mono ?_
 rintro e w1 ⟨R,cR,rfl,oX,b1⟩
 have HYS:=Lib.hid (fun h1 h2 h3 => ri_yes (s:=s) h1 h2 h3)
 have HNO:=Lib.hid (fun h => ri_no (s:=s) h)
 generalize hxs : elOf s = xs at *
 clear hxs
 have oR1:=Own.below oR b1
 have k1:=hbA.trans (b1.mono hbA.size)
 have z1:=k1.size
 have zz1 : w.heap.size < w1.heap.size:=Nat.lt_of_lt_of_le hzA b1.size
 have hX:=OwnE.rd oX
 clear oR hbA hzA b1
 have oN : Own (w1.alloc (.cells #[.string { data:=#[107,101,121] },.string { data:=#[116,105,116,108,101] },.string { data:=#[100,97,121] },.string { data:=#[98,111,100,121] }] 9)) w1.heap.size 9 1 (some ⟨w1.heap.size,0,none⟩) 4 4 nmC:=Own.lit w1 9 1 4 _ _ (by simp only [maxLen]; omega) rfl
 have kN : Below w1.heap.size w1 (w1.alloc (.cells #[.string { data:=#[107,101,121] },.string { data:=#[116,105,116,108,101] },.string { data:=#[100,97,121] },.string { data:=#[98,111,100,121] }] 9)):=(Below.refl _ _).alloc (Nat.le_refl _) _
 go_wp2_with fail
 go_loopw [5,7,8,9] (fun o i _ _ wr => ∃ (k : Nat) (q : Bool),k ≤ 4 ∧ Hid (q = (elOk s && nmTo xs k)) ∧ o = .bool q ∧ i = .int .i64 k ∧ Own wr w1.heap.size 9 1 (some ⟨w1.heap.size,0,none⟩) 4 4 nmC ∧ Below w1.heap.size w1 wr) (fun _ i _ _ _ => 4 - (intOf i).toNat)
 case atStart => exact ⟨0,elOk s,Nat.zero_le _,Lib.hid (Bool.and_true _).symm,rfl,rfl,oN,kN⟩
 case round =>
  clear oN kN
  obtain ⟨k,q,hk,hq,rfl,rfl,oN,kr⟩:=hrel
  have kz:=kr.size
  by_cases hlt : k < 4
  ·have hki : (k : Int) < 4:=by omega
   have cn : wr.cell? ⟨w1.heap.size,k,none⟩ = some (.string (nms k)):=oN.cell rfl (j:=k) (by omega)
   have zN:=(oN.lt (b:=w1.heap.size) rfl).2
   go_wp2_with fail
   obtain ⟨wo,rfl⟩ : ∃ wo : World,wo = wr:=⟨_,rfl⟩
   go_loopw [8,9] (fun m i wr => ∃ t : Nat,t ≤ xs.length ∧ m = .int .i64 (tnTo xs (nms k) t) ∧ i = .int .i64 t ∧ Below wo.heap.size wo wr) (fun _ i _ => xs.length - (intOf i).toNat)
   case atStart => exact ⟨0,Nat.zero_le _,rfl,rfl,Below.refl _ _⟩
   case round =>
    obtain ⟨t,ht,rfl,rfl,hbt⟩:=hrel
    have kt:=kr.trans (hbt.mono kz)
    have htl:=tnTo_le xs (nms k) t
    by_cases htt : t < xs.length
    ·have cn2 : wr.cell? ⟨w1.heap.size,k,none⟩ = some (.string (nms k)):=(hbt.cell (by exact zN)).trans cn
     obtain ⟨b,off,rfl,hb,hc⟩:=(hX.below kt).at_ (by omega)
     have c0 : wr.cell? ⟨b,off + t * 2,none⟩ = some (Value.string (gt xs t).1):=hc t 0 (by omega) (by omega)
     have c1 : wr.cell? ⟨b,off + t * 2 + 1,none⟩ = some (Value.string (gt xs t).2):=hc t 1 (by omega) (by omega)
     clear hc cn
     by_cases hqe : isE (nms k) (gt xs t) = true
     ·have q0 : ((gt xs t).1.toList == (nms k).toList) = true:=by rw [seq_eql]; exact hqe
      have HN:=Lib.hid (tnTo_yes hqe)
      clear hqe
      go_wp2_with fail
      go_quiet (fail)
      go_wp2_with fail
      go_roundw
      case rel => exact ⟨t + 1,by omega,by rw [HN.out]; go_num,by go_num,below_drewN hbt _⟩
      case measure => simp [intOf]; omega
     ·have hq' : isE (nms k) (gt xs t) = false:=by simpa using hqe
      have q0 : ((gt xs t).1.toList == (nms k).toList) = false:=by rw [seq_eql]; exact hq'
      have HN:=Lib.hid (tnTo_no hq')
      clear hqe hq'
      go_wp2_with fail
      go_quiet (fail)
      go_wp2_with fail
      go_roundw
      case rel => exact ⟨t + 1,by omega,by rw [HN.out],by go_num,below_drewN hbt _⟩
      case measure => simp [intOf]; omega
    ·obtain rfl : t = xs.length:=by omega
     obtain ⟨m,hm⟩ : ∃ m,m = tnTo xs (nms k) xs.length:=⟨_,rfl⟩
     rw [← hm] at htl
     rw [← hm]
     have hm2 : tnOf xs (nms k) = m:=hm.symm
     have oN2:=Own.below oN hbt
     clear hm cn
     by_cases h1 : 1 < m
     ·have g1 : decide ((1 : Int) < (m : Int)) = true:=decide_eq_true (by omega)
      have HN : Hid (false = (elOk s && nmTo xs (k + 1))):=Lib.hid (by rw [nmTo,nmB_no (by omega) (.inl (by omega)),Bool.and_false,Bool.and_false])
      clear hm2
      go_wp2_with fail
      go_roundw
      case rel => exact ⟨k + 1,false,by omega,HN,rfl,by go_num,oN2,kt⟩
      case measure => simp [intOf]; omega
     ·have g1 : decide ((1 : Int) < (m : Int)) = false:=decide_eq_false (by omega)
      by_cases h0 : m = 0
      ·subst h0
       have g1 : decide ((1 : Int) < ((0 : Nat) : Int)) = false:=g1
       by_cases h3 : k < 3
       ·have g3 : decide ((k : Int) < 3) = true:=decide_eq_true (by omega)
        have HN : Hid (false = (elOk s && nmTo xs (k + 1))):=Lib.hid (by rw [nmTo,nmB_no (by omega) (.inr h3),Bool.and_false,Bool.and_false])
        clear hm2
        go_wp2_with fail
        go_roundw
        case rel => exact ⟨k + 1,false,by omega,HN,rfl,by go_num,oN2,kt⟩
        case measure => simp [intOf]; omega
       ·have g3 : decide ((k : Int) < 3) = false:=decide_eq_false (by omega)
        have HN : Hid (q = (elOk s && nmTo xs (k + 1))):=Lib.hid (by rw [nmTo,nmB_yes (.inr ⟨by omega,h3⟩),Bool.and_true]; exact hq.out)
        clear hm2
        go_wp2_with fail
        go_roundw
        case rel => exact ⟨k + 1,q,by omega,HN,rfl,by go_num,oN2,kt⟩
        case measure => simp [intOf]; omega
      ·have g2 : ((m : Int) == 0) = false:=by rw [beq_eq_false_iff_ne]; omega
       have HN : Hid (q = (elOk s && nmTo xs (k + 1))):=Lib.hid (by rw [nmTo,nmB_yes (.inl (by omega)),Bool.and_true]; exact hq.out)
       clear hm2
       go_wp2_with fail
       go_roundw
       case rel => exact ⟨k + 1,q,by omega,HN,rfl,by go_num,oN2,kt⟩
       case measure => simp [intOf]; omega
  ·obtain rfl : k = 4:=by omega
   have kw:=k1.trans (kr.mono z1)
   cases q
   ·have HQ:=Lib.hid (HNO.out (by
       have h:=hq.out
       cases h1 : elOk s
       ·exact .inl rfl
       ·refine .inr (.inl (fun h2 => ?_))
        rw [h1,(nmTo_all xs).2 h2] at h
        cases h))
    have oRr:=Own.belowB oR1 kr (fun b hb => by simp [blk] at hb; omega)
    have r0:=oRr.cell (b:=w.heap.size) rfl (j:=0) (by simp)
    have r1:=oRr.cell (b:=w.heap.size) rfl (j:=1) (by simp)
    have r2:=oRr.cell (b:=w.heap.size) rfl (j:=2) (by simp)
    have r3:=oRr.cell (b:=w.heap.size) rfl (j:=3) (by simp)
    have rf0:=oRr.frozen (b:=w.heap.size) rfl 0
    have rf1:=oRr.frozen (b:=w.heap.size) rfl 1
    have rf2:=oRr.frozen (b:=w.heap.size) rfl 2
    have rf3:=oRr.frozen (b:=w.heap.size) rfl 3
    have r0 : _ = some (Value.string { data:=#[] }):=r0
    have r1 : _ = some (Value.string { data:=#[] }):=r1
    have r2 : _ = some (Value.string { data:=#[] }):=r2
    have r3 : _ = some (Value.int .i64 0):=r3
    go_wp2_with fail
    exact bodyPost_ret (v:=.tuple #[.agg #[.string { data:=#[] },.string { data:=#[] },.string { data:=#[] },.int .i64 0],.bool false]) (by simp [results,Tryz.results39,go_sem,r0,r1,r2,r3]) rfl ⟨by rw [HQ.out.1,HQ.out.2]; first | done | rfl,(by first | exact kw | exact ((((kw.setCell (p:=⟨w.heap.size,0,none⟩) (Nat.le_refl _) _).setCell (p:=⟨w.heap.size,1,none⟩) (Nat.le_refl _) _).setCell (p:=⟨w.heap.size,2,none⟩) (Nat.le_refl _) _).setCell (p:=⟨w.heap.size,3,none⟩) (Nat.le_refl _) _))⟩
   ·have HOK : Hid (elOk s = true ∧ rsOk xs):=Lib.hid (by
       have h:=hq.out.symm
       rw [Bool.and_eq_true] at h
       exact ⟨h.1,(nmTo_all xs).1 h.2⟩)
    clear hq oN hlt hk
    have oRr:=Own.belowB oR1 kr (fun b hb => by simp [blk] at hb; omega)
    go_wp2_with fail
    refine (specElementText_any R cR w1.heap.size xs (nms 0) wr (hX.below kr) kr.size (by omega) HEV.out).mono ?_
    rintro e v0 ⟨rfl,c0⟩
    have q0:=kr.trans (c0.mono kr.size)
    go_wp2_with fail
    refine (specElementText_any R cR w1.heap.size xs (nms 1) v0 (hX.below q0) q0.size (by omega) HEV.out).mono ?_
    rintro e v1 ⟨rfl,c1⟩
    have q1:=q0.trans (c1.mono q0.size)
    go_wp2_with fail
    refine (specElementText_any R cR w1.heap.size xs (nms 3) v1 (hX.below q1) q1.size (by omega) HEV.out).mono ?_
    rintro e v2 ⟨rfl,c2⟩
    have q2:=q1.trans (c2.mono q1.size)
    go_wp2_with fail
    refine (specElementText_any R cR w1.heap.size xs (nms 2) v2 (hX.below q2) q2.size (by omega) HEV.out).mono ?_
    rintro e v3 ⟨rfl,c3⟩
    have q3:=q2.trans (c3.mono q2.size)
    go_wp2_with fail
    refine (specReadDate_any (etOf xs (nms 2)) v3 (by have:=etOf_size xs (nms 2); unfold maxLen; omega)).mono ?_
    rintro e v4 ⟨rfl,c4⟩
    have q4:=q3.trans (c4.mono q3.size)
    clear c0 c1 c2 c3 c4 q0 q1 q2 q3
    have q5 : Below w1.heap.size w1 (v4.alloc (.cells #[Value.string (etOf xs (nms 0)),Value.string (etOf xs (nms 1)),Value.string (etOf xs (nms 3)),Value.int .i64 (rdD (etOf xs (nms 2)))] 69)):=q4.alloc q4.size _
    have d0 : (v4.alloc (.cells #[Value.string (etOf xs (nms 0)),Value.string (etOf xs (nms 1)),Value.string (etOf xs (nms 3)),Value.int .i64 (rdD (etOf xs (nms 2)))] 69)).cell? ⟨v4.heap.size,0,none⟩ = some (Value.string (etOf xs (nms 0))):=by rw [World.cell?_alloc_at _ _ _ _ rfl]; rfl
    have d1 : (v4.alloc (.cells #[Value.string (etOf xs (nms 0)),Value.string (etOf xs (nms 1)),Value.string (etOf xs (nms 3)),Value.int .i64 (rdD (etOf xs (nms 2)))] 69)).cell? ⟨v4.heap.size,1,none⟩ = some (Value.string (etOf xs (nms 1))):=by rw [World.cell?_alloc_at _ _ _ _ rfl]; rfl
    have d2 : (v4.alloc (.cells #[Value.string (etOf xs (nms 0)),Value.string (etOf xs (nms 1)),Value.string (etOf xs (nms 3)),Value.int .i64 (rdD (etOf xs (nms 2)))] 69)).cell? ⟨v4.heap.size,2,none⟩ = some (Value.string (etOf xs (nms 3))):=by rw [World.cell?_alloc_at _ _ _ _ rfl]; rfl
    have d3 : (v4.alloc (.cells #[Value.string (etOf xs (nms 0)),Value.string (etOf xs (nms 1)),Value.string (etOf xs (nms 3)),Value.int .i64 (rdD (etOf xs (nms 2)))] 69)).cell? ⟨v4.heap.size,3,none⟩ = some (Value.int .i64 (rdD (etOf xs (nms 2)))):=by rw [World.cell?_alloc_at _ _ _ _ rfl]; rfl
    have zA5 : v4.heap.size < (v4.alloc (.cells #[Value.string (etOf xs (nms 0)),Value.string (etOf xs (nms 1)),Value.string (etOf xs (nms 3)),Value.int .i64 (rdD (etOf xs (nms 2)))] 69)).heap.size:=by simp
    have e0:=etOf_size xs (nms 0)
    have e1:=etOf_size xs (nms 1)
    have e3:=etOf_size xs (nms 3)
    have HCV:=Lib.hid (fun (z : World) => specItemValid_any (etOf xs (nms 0)) (etOf xs (nms 1)) (etOf xs (nms 3)) (rdD (etOf xs (nms 2))) z (by unfold maxLen; omega) (by unfold maxLen; omega) (by unfold maxLen; omega))
    clear e0 e1 e3
    go_wp2_with fail
    generalize (v4.alloc (.cells #[Value.string (etOf xs (nms 0)),Value.string (etOf xs (nms 1)),Value.string (etOf xs (nms 3)),Value.int .i64 (rdD (etOf xs (nms 2)))] 69)) = v5 at *
    refine (HCV.out v5).mono ?_
    rintro e v6 ⟨rfl,c6⟩
    have q6:=q5.trans (c6.mono q5.size)
    have kw6:=k1.trans (q6.mono z1)
    have oR6:=Own.belowB oR1 q6 (fun b hb => by simp [blk] at hb; omega)
    have g0 : v6.cell? ⟨v4.heap.size,0,none⟩ = some (Value.string (etOf xs (nms 0))):=(c6.cell (by exact zA5)).trans d0
    clear d0
    have g1 : v6.cell? ⟨v4.heap.size,1,none⟩ = some (Value.string (etOf xs (nms 1))):=(c6.cell (by exact zA5)).trans d1
    clear d1
    have g2 : v6.cell? ⟨v4.heap.size,2,none⟩ = some (Value.string (etOf xs (nms 3))):=(c6.cell (by exact zA5)).trans d2
    clear d2
    have g3 : v6.cell? ⟨v4.heap.size,3,none⟩ = some (Value.int .i64 (rdD (etOf xs (nms 2)))):=(c6.cell (by exact zA5)).trans d3
    clear d3
    have r0:=oR6.cell (b:=w.heap.size) rfl (j:=0) (by simp)
    have r1:=oR6.cell (b:=w.heap.size) rfl (j:=1) (by simp)
    have r2:=oR6.cell (b:=w.heap.size) rfl (j:=2) (by simp)
    have r3:=oR6.cell (b:=w.heap.size) rfl (j:=3) (by simp)
    have rf0:=oR6.frozen (b:=w.heap.size) rfl 0
    have rf1:=oR6.frozen (b:=w.heap.size) rfl 1
    have rf2:=oR6.frozen (b:=w.heap.size) rfl 2
    have rf3:=oR6.frozen (b:=w.heap.size) rfl 3
    have r0 : _ = some (Value.string { data:=#[] }):=r0
    have r1 : _ = some (Value.string { data:=#[] }):=r1
    have r2 : _ = some (Value.string { data:=#[] }):=r2
    have r3 : _ = some (Value.int .i64 0):=r3
    cases hv : ivB (etOf xs (nms 0),etOf xs (nms 1),etOf xs (nms 3),rdD (etOf xs (nms 2)))
    ·have HQ:=Lib.hid (HNO.out (.inr (.inr hv)))
     clear hv
     go_wp2_with fail
     exact bodyPost_ret (v:=.tuple #[.agg #[.string { data:=#[] },.string { data:=#[] },.string { data:=#[] },.int .i64 0],.bool false]) (by simp [results,Tryz.results39,go_sem,r0,r1,r2,r3]) rfl ⟨by rw [HQ.out.1,HQ.out.2]; first | done | rfl,(by first | exact kw6 | exact ((((kw6.setCell (p:=⟨w.heap.size,0,none⟩) (Nat.le_refl _) _).setCell (p:=⟨w.heap.size,1,none⟩) (Nat.le_refl _) _).setCell (p:=⟨w.heap.size,2,none⟩) (Nat.le_refl _) _).setCell (p:=⟨w.heap.size,3,none⟩) (Nat.le_refl _) _))⟩
    ·have HQ:=Lib.hid (HYS.out HOK.out.1 HOK.out.2 hv)
     clear hv
     go_wp2_with fail
     exact bodyPost_ret (v:=.tuple #[.agg #[.string (etOf xs (nms 0)),.string (etOf xs (nms 1)),.string (etOf xs (nms 3)),.int .i64 (rdD (etOf xs (nms 2)))],.bool true]) (by simp [results,Tryz.results39,go_sem,r0,r1,r2,r3]) rfl ⟨by rw [HQ.out.1,HQ.out.2]; first | done | rfl,(by first | exact kw6 | exact ((((kw6.setCell (p:=⟨w.heap.size,0,none⟩) (Nat.le_refl _) _).setCell (p:=⟨w.heap.size,1,none⟩) (Nat.le_refl _) _).setCell (p:=⟨w.heap.size,2,none⟩) (Nat.le_refl _) _).setCell (p:=⟨w.heap.size,3,none⟩) (Nat.le_refl _) _))⟩
end Go.Proofs.YtfnmlffpnmmcdaaGreatDoor
namespace Go.Proofs.YtfnmlffpnmmcdaaGreatDoor
set_option maxRecDepth 100000
open Go.RowKit
set_option maxHeartbeats 1600000 in
theorem specUnfollow_any (A : Option Addr) (cap B : Nat) (fs : List ElHandle) (h : ElHandle) (w : World) (hr : RdE 2 encHandle w B A fs) (hB : B ≤ w.heap.size) (hS : Shp A fs.length cap) (hv : fvB fs = true) :
    Calls Tryz.prog 38 #[.slice A fs.length cap,.agg #[.string h.1,.string h.2]] w fun e w' => ∃ T' cap',e = .returned (.tuple #[.slice T' (ufOf fs h).length cap',.bool (ufOk fs h)]) ∧ OwnE 2 encHandle 29 w' w.heap.size T' cap' (ufOf fs h) ∧ Below w.heap.size w w':=by
 have h10:=(Fv.of hv).1
 have HV:=Lib.hid hv
 clear hv
 have e0 : (w.alloc (.cells #[.string h.1,.string h.2] 29)).cell? ⟨w.heap.size,0,none⟩ = some (.string h.1):=by rw [World.cell?_alloc_at _ _ _ _ rfl]; rfl
 have e1 : (w.alloc (.cells #[.string h.1,.string h.2] 29)).cell? ⟨w.heap.size,1,none⟩ = some (.string h.2):=by rw [World.cell?_alloc_at _ _ _ _ rfl]; rfl
 have kA : Below w.heap.size w (w.alloc (.cells #[.string h.1,.string h.2] 29)):=(Below.refl _ _).alloc (Nat.le_refl _) _
 have zA : w.heap.size < (w.alloc (.cells #[.string h.1,.string h.2] 29)).heap.size:=by simp
 have k2 : Below w.heap.size w ((w.alloc (.cells #[.string h.1,.string h.2] 29)).alloc (.cells #[] 29)):=kA.alloc kA.size _
 have e0b : ((w.alloc (.cells #[.string h.1,.string h.2] 29)).alloc (.cells #[] 29)).cell? ⟨w.heap.size,0,none⟩ = some (.string h.1):=(((Below.refl _ _).alloc (Nat.le_refl _) _ : Below (w.alloc (.cells #[.string h.1,.string h.2] 29)).heap.size (w.alloc (.cells #[.string h.1,.string h.2] 29)) ((w.alloc (.cells #[.string h.1,.string h.2] 29)).alloc (.cells #[] 29))).cell (by exact zA)).trans e0
 have e1b : ((w.alloc (.cells #[.string h.1,.string h.2] 29)).alloc (.cells #[] 29)).cell? ⟨w.heap.size,1,none⟩ = some (.string h.2):=(((Below.refl _ _).alloc (Nat.le_refl _) _ : Below (w.alloc (.cells #[.string h.1,.string h.2] 29)).heap.size (w.alloc (.cells #[.string h.1,.string h.2] 29)) ((w.alloc (.cells #[.string h.1,.string h.2] 29)).alloc (.cells #[] 29))).cell (by exact zA)).trans e1
 have zw : (w.alloc (.cells #[.string h.1,.string h.2] 29)).heap.size = w.heap.size + 1:=by simp
 have hemp : OwnE 2 encHandle 29 ((w.alloc (.cells #[.string h.1,.string h.2] 29)).alloc (.cells #[] 29)) (w.heap.size + 1) (some ⟨w.heap.size + 1,0,none⟩) 0 ([] : List ElHandle):=by have:=Own.lit (w.alloc (.cells #[.string h.1,.string h.2] 29)) 29 2 0 #[] (cE 2 encHandle ([] : List ElHandle)) (Nat.zero_le _) rfl; rw [zw] at this; exact this
 have z2 : w.heap.size + 1 < ((w.alloc (.cells #[.string h.1,.string h.2] 29)).alloc (.cells #[] 29)).heap.size:=by simp
 clear zw e0 e1 zA kA
 go_enter Tryz.func38,Tryz.ntmps38
 go_wp2_with fail
 generalize ((w.alloc (.cells #[.string h.1,.string h.2] 29)).alloc (.cells #[] 29)) = w2 at *
 go_loopw [6,7] (fun v i wr => ∃ (k : Nat) (R : Option Addr) (c : Nat) (cur : List ElHandle),k ≤ fs.length ∧ i = .int .i64 k ∧ v = .slice R cur.length c ∧ Hid (cur = selTo (fun x => !isH h x) fs k) ∧ cur.length ≤ k ∧ OwnE 2 encHandle 29 wr (w.heap.size + 1) R c cur ∧ Below (w.heap.size + 1) w2 wr) (fun _ i _ => fs.length - (intOf i).toNat)
 case atStart => exact ⟨0,_,0,[],Nat.zero_le _,rfl,rfl,Lib.hid (selTo_zero _ _).symm,Nat.le_refl _,hemp,Below.refl _ _⟩
 case round =>
  clear hemp
  obtain ⟨k,R,c,cur,hk,rfl,rfl,hcur,hck,hown,hb2⟩:=hrel
  have hbl:=k2.trans (hb2.mono (Nat.le_succ _))
  have hsz:=hbl.size
  have hz2:=hb2.size
  by_cases hklt : k < fs.length
  ·have k1 : decide ((k : Int) < (fs.length : Int)) = true:=by simp [hklt]
   have k1b : decide (k < fs.length) = true:=by simp [hklt]
   go_wp2_with fail
   refine (specFollowersValid_any A cap B fs wr (hr.below (hbl.mono hB)) (Nat.le_trans hB hsz) (by omega) (fv_sz HV.out)).mono ?_
   rintro e w3 ⟨rfl,b3⟩
   rw [HV.out]
   have hbl3:=hbl.trans (b3.mono hsz)
   have hb3 : Below (w.heap.size + 1) w2 w3:=hb2.trans (b3.mono (by omega))
   have hown3:=Own.below hown b3
   have hs3:=hbl3.size
   clear b3 hown hbl hb2
   have g0:=(hb3.cell (p:=⟨w.heap.size,0,none⟩) (by show w.heap.size < w.heap.size + 1; omega)).trans e0b
   have g1:=(hb3.cell (p:=⟨w.heap.size,1,none⟩) (by show w.heap.size < w.heap.size + 1; omega)).trans e1b
   obtain ⟨b,off,rfl,hb,hc⟩:=(hr.below (hbl3.mono hB)).at_ (by omega)
   have c0 : w3.cell? ⟨b,off + k * 2,none⟩ = some (Value.string (gt fs k).1):=hc k 0 (by omega) (by omega)
   have c1 : w3.cell? ⟨b,off + k * 2 + 1,none⟩ = some (Value.string (gt fs k).2):=hc k 1 (by omega) (by omega)
   clear hc
   have hneq:=fun w' => neq_Handle (gt fs k).1 (gt fs k).2 h.1 h.2 w'
   have hgd:=guard_Handle
   cases hq : isH h (gt fs k)
   ·have hn : eqEl (α:=ElHandle) ((gt fs k).1,(gt fs k).2) (h.1,h.2) = false:=hq
    have HN:=Lib.hid (selTo_is (p:=fun x => !isH h x) hklt (show (!isH h (gt fs k)) = true by rw [hq]; rfl))
    clear hq
    go_wp2_with fail
    go_quiet (fail)
    obtain ⟨W5,hW5⟩ : ∃ W5,W5 = w3.drewN nq:=⟨_,rfl⟩
    have hb5 : Below (w.heap.size + 1) w2 W5:=by rw [hW5]; exact below_drewN hb3 _
    have hown5 : OwnE 2 encHandle 29 W5 (w.heap.size + 1) R c cur:=by rw [hW5]; exact Own.drewN hown3 _
    have hz5 : w.heap.size + 1 ≤ W5.heap.size:=by have:=hb5.size; omega
    have p0 : W5.cell? ⟨b,off + k * 2,none⟩ = some (Value.string (gt fs k).1):=by rw [hW5]; exact c0
    have p1 : W5.cell? ⟨b,off + k * 2 + 1,none⟩ = some (Value.string (gt fs k).2):=by rw [hW5]; exact c1
    rw [← hW5]
    clear hW5 hn hneq hb3 hown3 c0 c1 g0 g1
    go_wp2_with (at_builtin; refine wpList_app rfl (.tmp 25) (.tmp 30) _ rfl (w.heap.size + 1) 29 _ 2 32 Tryz.underlying31 info_Handle rfl (by omega) R (some ⟨W5.heap.size,0,none⟩) cur.length c 1 1 (W5.heap.size + 1) (cE 2 encHandle cur) (encHandle (gt fs k)) rfl rfl (Own.below hown5 ((Below.refl _ _).alloc (Nat.le_refl _) _)) (rd_elem _ _ _ _ (fun j hj => by rcases (by omega : j = 0 ∨ j = 1) with rfl | rfl <;> rfl)) (fun _ _ => encHandle_one _ _) (by simp only [maxLen]; omega) (by omega) (by first | omega | (simp; omega)) ?_; intro T1 cap1 w6 hown6 hg6)
    go_roundw
    case rel => exact ⟨k + 1,T1,cap1,cur ++ [(gt fs k)],by omega,by go_num,by rw [List.length_append]; rfl,Lib.hid (by rw [HN.out,← hcur.out]),by rw [List.length_append]; simp; omega,OwnE.snoc (by omega) hown6,(hb5.alloc hz5 _).trans (grown_below hg6 (fun b hb => (Own.lt hown5 hb).1) (by first | omega | (simp; omega)))⟩
    case measure => simp [intOf]; omega
   ·have hn : eqEl (α:=ElHandle) ((gt fs k).1,(gt fs k).2) (h.1,h.2) = true:=hq
    have HN:=Lib.hid (selTo_not (p:=fun x => !isH h x) hklt (show (!isH h (gt fs k)) = false by rw [hq]; rfl))
    clear hq
    go_wp2_with fail
    go_quiet (fail)
    go_wp2_with fail
    go_roundw
    case rel => exact ⟨k + 1,R,c,cur,by omega,by go_num,rfl,Lib.hid (by rw [HN.out,← hcur.out]),by omega,Own.drewN hown3 _,below_drewN hb3 _⟩
    case measure => simp [intOf]; omega
  ·obtain rfl : k = fs.length:=by omega
   have hfin : cur = ufOf fs h:=by rw [hcur.out]; rw [selTo_all]; rfl
   clear hcur
   go_wp2_with fail
   refine (specFollowersValid_any A cap B fs wr (hr.below (hbl.mono hB)) (Nat.le_trans hB hsz) (by omega) (fv_sz HV.out)).mono ?_
   rintro e w3 ⟨rfl,b3⟩
   rw [HV.out]
   have hown3:=Own.below hown b3
   cases hq : ufOk fs h
   ·have gq : decide ((cur.length : Int) < (fs.length : Int)) = false:=by
       unfold ufOk at hq
       rw [← hfin] at hq
       have:=of_decide_eq_false hq
       exact decide_eq_false (by omega)
    clear hq
    go_wp2_with fail
    go_ret2
    subst hfin
    exact ⟨R,c,rfl,Own.more hown3 (Nat.le_succ _),hbl.trans (b3.mono hsz)⟩
   ·have gq : decide ((cur.length : Int) < (fs.length : Int)) = true:=by
       unfold ufOk at hq
       rw [← hfin] at hq
       have:=of_decide_eq_true hq
       exact decide_eq_true (by omega)
    clear hq
    go_wp2_with fail
    go_ret2
    subst hfin
    exact ⟨R,c,rfl,Own.more hown3 (Nat.le_succ _),hbl.trans (b3.mono hsz)⟩
end Go.Proofs.YtfnmlffpnmmcdaaGreatDoor
namespace Go.Proofs.YtfnmlffpnmmcdaaGreatDoor
set_option maxRecDepth 100000
open Go.RowKit
theorem elem_kept {α : Type} {sz : Nat} {enc : α → Nat → Value} {w w' : World} {row : Option Nat} {y : α} (b : Nat) (hg : w.grownBy w' row) (hb : b < w.heap.size) (hne : row = none ∨ some b ≠ row)
    (hc : ∀ j,j < sz → w.cell? ⟨b,j,none⟩ = some (enc y j)) : Rd w' (b + 1) sz (some ⟨b,0,none⟩) 1 (enc y):=fun _ =>
 ⟨b,0,rfl,by omega,fun j hj => by
  rw [Nat.zero_add,hg.cell_far _ hb (by
   rcases hne with h | h
   ·subst h; exact fun e => nomatch e
   ·exact h)]
  exact hc j (by omega)⟩
end Go.Proofs.YtfnmlffpnmmcdaaGreatDoor
namespace Go.Proofs.YtfnmlffpnmmcdaaGreatDoor
set_option maxRecDepth 100000
open Go.RowKit
set_option maxHeartbeats 800000 in
theorem specFollow_any (A : Option Addr) (cap B : Nat) (ps : List ElHandle) (p : ElHandle) (w : World) (h : RdE 2 encHandle w B A ps) (hB : B ≤ w.heap.size) (hl : ps.length ≤ 140737488351232) (hS : Shp A ps.length cap) (hsz : ∀ k,k < ps.length → (gt ps k).1.size ≤ maxLen ∧ (gt ps k).2.size ≤ maxLen) (hp : p.1.size ≤ maxLen ∧ p.2.size ≤ maxLen) :
    Calls Tryz.prog 37 #[.slice A ps.length cap,.agg #[.string p.1,.string p.2]] w fun e w' => ∃ T' cap',e = .returned (.tuple #[.slice T' (folOf ps p).length cap',.bool (folOk ps p)]) ∧ OwnE 2 encHandle 29 w' w.heap.size T' cap' (folOf ps p) ∧ Below w.heap.size w w':=by
 have HSZ:=Lib.hid hsz
 have HSI:=Lib.hid (insF_sz hsz hp)
 clear hsz hp
 have hbA : Below w.heap.size w (w.alloc (.cells #[.string p.1,.string p.2] 29)):=(Below.refl _ _).alloc (Nat.le_refl _) _
 have hpA0 : (w.alloc (.cells #[.string p.1,.string p.2] 29)).cell? ⟨w.heap.size,0,none⟩ = some (.string p.1):=by rw [World.cell?_alloc_at _ _ _ _ rfl]; rfl
 have hpA1 : (w.alloc (.cells #[.string p.1,.string p.2] 29)).cell? ⟨w.heap.size,1,none⟩ = some (.string p.2):=by rw [World.cell?_alloc_at _ _ _ _ rfl]; rfl
 have hzA : (w.alloc (.cells #[.string p.1,.string p.2] 29)).heap.size = w.heap.size + 1:=by simp
 by_cases hv : fvB ps = true
 ·have h10:=(Fv.of hv).1
  go_enter Tryz.func37,Tryz.ntmps37
  go_wp2_with fail
  have HZ:=Lib.hid hzA; clear hzA
  generalize (w.alloc (.cells #[.string p.1,.string p.2] 29)) = wA at *
  refine (specFollowersValid_any _ _ B ps wA (h.below (hbA.mono hB)) (Nat.le_trans hB hbA.size) hl HSZ.out).mono ?_
  rintro e w1 ⟨rfl,hb1⟩
  have hb1' : Below (w.heap.size + 1) wA w1:=hb1.mono (by rw [HZ.out]; exact Nat.le_refl _)
  have hsA : w.heap.size + 1 ≤ wA.heap.size:=by rw [HZ.out]; exact Nat.le_refl _
  go_wp2_with fail
  go_loopw [6] (fun i wr => ∃ k : Nat,k ≤ ps.length ∧ Hid (∀ j,j < k → hbB (gt ps j) p = true) ∧ i = .int .i64 k ∧ Below (w.heap.size + 1) wA wr) (fun i _ => ps.length - (intOf i).toNat)
  case atStart => exact ⟨0,Nat.zero_le _,Lib.hid (fun j hj => absurd hj (by omega)),rfl,hb1'⟩
  case round =>
   clear hb1 hb1'
   obtain ⟨k,hk,hbe,rfl,hbl⟩:=hrel
   have hsz:=hbl.size
   have q0 : wr.cell? ⟨w.heap.size,0,none⟩ = some (.string p.1):=(hbl.cell (p:=⟨w.heap.size,0,none⟩) (by show w.heap.size < w.heap.size + 1; omega)).trans hpA0
   have q1 : wr.cell? ⟨w.heap.size,1,none⟩ = some (.string p.2):=(hbl.cell (p:=⟨w.heap.size,1,none⟩) (by show w.heap.size < w.heap.size + 1; omega)).trans hpA1
   have hrr : RdE 2 encHandle wr B A ps:=(h.below (hbA.mono hB)).below (hbl.mono (by omega))
   have hbw : Below w.heap.size w wr:=hbA.trans (hbl.mono (by omega))
   by_cases hgo : k < ps.length ∧ hbB (gt ps k) p = true
   ·obtain ⟨hlt,hbf⟩:=hgo
    obtain ⟨b,off,rfl,hb,hc⟩:=hrr.at_ (by omega)
    have c0 : wr.cell? ⟨b,off + k * 2,none⟩ = some (Value.string ((gt ps k).1)):=hc k 0 (by omega) (by omega)
    have c1 : wr.cell? ⟨b,off + k * 2 + 1,none⟩ = some (Value.string ((gt ps k).2)):=hc k 1 (by omega) (by omega)
    have hlt2 : decide ((k : Int) < (ps.length : Int)) = true:=by simp [hlt]
    have hlt3 : decide (k < ps.length) = true:=by simp [hlt]
    have hbf' : hbB ((gt ps k).1,(gt ps k).2) (p.1,p.2) = true:=hbf
    have HN:=Lib.hid (fun j (hj : j < k + 1) => by
     rcases Nat.lt_succ_iff_lt_or_eq.1 hj with h1 | rfl
     ·exact hbe.out j h1
     ·exact hbf : ∀ j,j < k + 1 → hbB (gt ps j) p = true)
    clear hc hbf hrr
    go_wp2_with fail
    refine wp_region_still_tail 10 (by kernel_rfl) (by kernel_rfl) ?_
    simp only [List.take_succ_cons,List.take_zero,List.drop_succ_cons,List.drop_zero]
    repeat still_step
    refine wpStill_nil ?_
    go_wp2_with (go_at_call 82; refine (specHandleBefore_any _ _ _ _ _).mono ?_; rintro e w2 ⟨rfl,hb2⟩)
    go_roundw
    case rel => exact ⟨k + 1,by omega,HN,by go_num,hbl.trans (((below_drew1 wr).trans hb2).mono (by show w.heap.size + 1 ≤ wr.heap.size; omega))⟩
    case measure => simp [intOf]; omega
   ·have hpos : posF ps p = k:=posF_eq ps p k hk hbe.out (fun hlt => by
       cases hq : hbB (gt ps k) p
       ·rfl
       ·exact absurd ⟨hlt,hq⟩ hgo)
    have HP:=Lib.hid hpos
    have hins : Hid (insF ps p = ps.take k ++ [p] ++ ps.drop k):=Lib.hid (by rw [insF,hpos])
    clear hpos
    have hinl : (insF ps p).length ≤ 11:=by rw [insF_len]; omega
    by_cases hlt : k < ps.length
    ·have hbf : hbB (gt ps k) p = false:=by
        cases hq : hbB (gt ps k) p
        ·rfl
        ·exact absurd ⟨hlt,hq⟩ hgo
     obtain ⟨b,off,hAe,hb,hc⟩:=hrr.at_ (by omega)
     have c0 : wr.cell? ⟨b,off + k * 2,none⟩ = some (Value.string ((gt ps k).1)):=hc k 0 (by omega) (by omega)
     have c1 : wr.cell? ⟨b,off + k * 2 + 1,none⟩ = some (Value.string ((gt ps k).2)):=hc k 1 (by omega) (by omega)
     have hlt2 : decide ((k : Int) < (ps.length : Int)) = true:=by simp [hlt]
     have hlt3 : decide (k < ps.length) = true:=by simp [hlt]
     have hbf' : hbB ((gt ps k).1,(gt ps k).2) (p.1,p.2) = false:=hbf
     subst hAe
     clear hc hbf hgo
     go_wp2_with fail
     refine wp_region_still_tail 10 (by kernel_rfl) (by kernel_rfl) ?_
     simp only [List.take_succ_cons,List.take_zero,List.drop_succ_cons,List.drop_zero]
     repeat still_step
     refine wpStill_nil ?_
     go_wp2_with (go_at_call 82; refine (specHandleBefore_any _ _ _ _ _).mono ?_; rintro e w2 ⟨rfl,hb2⟩; have hb2' : Below (w.heap.size + 1) wr w2:=((below_drew1 wr).trans hb2).mono (by show w.heap.size + 1 ≤ wr.heap.size; omega);have s0:=(hb2'.cell (p:=⟨w.heap.size,0,none⟩) (by show w.heap.size < w.heap.size + 1; omega)).trans q0; have s1:=(hb2'.cell (p:=⟨w.heap.size,1,none⟩) (by show w.heap.size < w.heap.size + 1; omega)).trans q1)
     have hr2:=hrr.below (hb2'.mono (by omega))
     have hbw2:=hbw.trans (hb2'.mono (by omega))
     have hsz2 : w.heap.size + 1 ≤ w2.heap.size:=Nat.le_trans (by omega) hb2'.size
     clear c0 c1 q0 q1 hlt2 hlt3 hbf' hb2 hb2' hrr hbw hbl
     have hempA : Own (w2.alloc (.cells #[] 29)) (w.heap.size + 1) 29 2 (some ⟨w2.heap.size,0,none⟩) 0 0 (cE 2 encHandle ([] : List ElHandle)):=Own.more (Own.lit w2 29 2 0 #[] (cE 2 encHandle ([] : List ElHandle)) (Nat.zero_le _) rfl) (by first | omega | (simp; done) | (simp; omega))
     have hempB : Own ((w2.alloc (.cells #[] 29)).alloc (.cells #[.string p.1,.string p.2] 29)) (w.heap.size + 1) 29 2 (some ⟨w2.heap.size,0,none⟩) 0 0 (cE 2 encHandle ([] : List ElHandle)):=Own.below hempA ((Below.refl _ _).alloc (Nat.le_refl _) _)
     have hempC : Own ((w2.alloc (.cells #[.string p.1,.string p.2] 29)).alloc (.cells #[] 29)) (w.heap.size + 1) 29 2 (some ⟨w2.heap.size + 1,0,none⟩) 0 0 (cE 2 encHandle ([] : List ElHandle)):=by
      have:=Own.lit (w2.alloc (.cells #[.string p.1,.string p.2] 29)) 29 2 0 #[] (cE 2 encHandle ([] : List ElHandle)) (Nat.zero_le _) rfl
      rw [show ((w2.alloc (.cells #[.string p.1,.string p.2] 29))).heap.size = w2.heap.size + 1 by simp] at this
      exact Own.more this (by omega)
     have hgA : Below (w.heap.size + 1) w2 (w2.alloc (.cells #[] 29)):=(Below.refl (w.heap.size + 1) w2).alloc (by omega) _
     have hgB : Below (w.heap.size + 1) w2 ((w2.alloc (.cells #[] 29)).alloc (.cells #[.string p.1,.string p.2] 29)):=hgA.alloc (by first | omega | (simp; done) | (simp; omega)) _
     have hgP : Below (w.heap.size + 1) w2 (w2.alloc (.cells #[.string p.1,.string p.2] 29)):=(Below.refl (w.heap.size + 1) w2).alloc (by omega) _
     have hgC : Below (w.heap.size + 1) w2 ((w2.alloc (.cells #[.string p.1,.string p.2] 29)).alloc (.cells #[] 29)):=hgP.alloc (by first | omega | (simp; done) | (simp; omega)) _
     have hbeA:=hbw2.trans (hgA.mono (Nat.le_succ _))
     have hbeB:=hbw2.trans (hgB.mono (Nat.le_succ _))
     have hbeC:=hbw2.trans (hgC.mono (Nat.le_succ _))
     have qa0:=(hgA.cell (p:=⟨w.heap.size,0,none⟩) (by show w.heap.size < w.heap.size + 1; omega)).trans s0
     have qa1:=(hgA.cell (p:=⟨w.heap.size,1,none⟩) (by show w.heap.size < w.heap.size + 1; omega)).trans s1
     have qb0:=(hgB.cell (p:=⟨w.heap.size,0,none⟩) (by show w.heap.size < w.heap.size + 1; omega)).trans s0
     have qb1:=(hgB.cell (p:=⟨w.heap.size,1,none⟩) (by show w.heap.size < w.heap.size + 1; omega)).trans s1
     have qp0:=(hgP.cell (p:=⟨w.heap.size,0,none⟩) (by show w.heap.size < w.heap.size + 1; omega)).trans s0
     have qp1:=(hgP.cell (p:=⟨w.heap.size,1,none⟩) (by show w.heap.size < w.heap.size + 1; omega)).trans s1
     have qc0:=(hgC.cell (p:=⟨w.heap.size,0,none⟩) (by show w.heap.size < w.heap.size + 1; omega)).trans s0
     have qc1:=(hgC.cell (p:=⟨w.heap.size,1,none⟩) (by show w.heap.size < w.heap.size + 1; omega)).trans s1
     have hrA : RdE 2 encHandle (w2.alloc (.cells #[] 29)) B (some ⟨b,off,none⟩) ps:=hr2.below (hgA.mono (by omega))
     have hrB : RdE 2 encHandle ((w2.alloc (.cells #[] 29)).alloc (.cells #[.string p.1,.string p.2] 29)) B (some ⟨b,off,none⟩) ps:=hr2.below (hgB.mono (by omega))
     have hrC : RdE 2 encHandle ((w2.alloc (.cells #[.string p.1,.string p.2] 29)).alloc (.cells #[] 29)) B (some ⟨b,off,none⟩) ps:=hr2.below (hgC.mono (by omega))
     have hxB : ∀ j,j < 2 → (((w2.alloc (.cells #[] 29)).alloc (.cells #[.string p.1,.string p.2] 29))).cell? ⟨w2.heap.size + 1,j,none⟩ = some (encHandle p j):=fun j hj => by
      rw [World.cell?_alloc_at _ _ _ _ (by simp)]; rcases (by omega : j = 0 ∨ j = 1) with rfl | rfl <;> rfl
     have hxC : ∀ j,j < 2 → (((w2.alloc (.cells #[.string p.1,.string p.2] 29)).alloc (.cells #[] 29))).cell? ⟨w2.heap.size,j,none⟩ = some (encHandle p j):=fun j hj => by
      rw [((Below.refl (w2.heap.size + 1) (w2.alloc (.cells #[.string p.1,.string p.2] 29))).alloc (by simp) _).cell (by show w2.heap.size < w2.heap.size + 1; omega),World.cell?_alloc_at _ _ _ _ rfl]; rcases (by omega : j = 0 ∨ j = 1) with rfl | rfl <;> rfl
     have hlk : (ps.take k).length = k:=by simp; omega
     have hlk1 : (ps.take k ++ [p]).length = k + 1:=by simp; omega
     have hld : (ps.drop k).length = ps.length - k:=by simp
     have hk0 : (0 : Int) ≤ (k : Int):=Int.natCast_nonneg _
     have hkl : (k : Int) ≤ (ps.length : Int):=by omega
     have szA : ((w2.alloc (.cells #[] 29))).drew.heap.size = w2.heap.size + 1:=by simp
     have szB : (((w2.alloc (.cells #[] 29)).alloc (.cells #[.string p.1,.string p.2] 29))).drew.heap.size = w2.heap.size + 1 + 1:=by simp
     have szC : (((w2.alloc (.cells #[.string p.1,.string p.2] 29)).alloc (.cells #[] 29))).drew.heap.size = w2.heap.size + 1 + 1:=by simp
     replace hempA : Own ((w2.alloc (.cells #[] 29))).drew (w.heap.size + 1) 29 2 (some ⟨w2.heap.size,0,none⟩) 0 0 (cE 2 encHandle ([] : List ElHandle)):=hempA
     replace hempB : Own (((w2.alloc (.cells #[] 29)).alloc (.cells #[.string p.1,.string p.2] 29))).drew (w.heap.size + 1) 29 2 (some ⟨w2.heap.size,0,none⟩) 0 0 (cE 2 encHandle ([] : List ElHandle)):=hempB
     replace hempC : Own (((w2.alloc (.cells #[.string p.1,.string p.2] 29)).alloc (.cells #[] 29))).drew (w.heap.size + 1) 29 2 (some ⟨w2.heap.size + 1,0,none⟩) 0 0 (cE 2 encHandle ([] : List ElHandle)):=hempC
     replace hrA : RdE 2 encHandle ((w2.alloc (.cells #[] 29))).drew B (some ⟨b,off,none⟩) ps:=hrA
     replace hrB : RdE 2 encHandle (((w2.alloc (.cells #[] 29)).alloc (.cells #[.string p.1,.string p.2] 29))).drew B (some ⟨b,off,none⟩) ps:=hrB
     replace hrC : RdE 2 encHandle (((w2.alloc (.cells #[.string p.1,.string p.2] 29)).alloc (.cells #[] 29))).drew B (some ⟨b,off,none⟩) ps:=hrC
     replace hbeA:=hbeA.drew
     replace hbeB:=hbeB.drew
     replace hbeC:=hbeC.drew
     replace qa0 : (((w2.alloc (.cells #[] 29))).drew).cell? ⟨w.heap.size,0,none⟩ = some (.string p.1):=qa0
     replace qa1 : (((w2.alloc (.cells #[] 29))).drew).cell? ⟨w.heap.size,1,none⟩ = some (.string p.2):=qa1
     replace qb0 : ((((w2.alloc (.cells #[] 29)).alloc (.cells #[.string p.1,.string p.2] 29))).drew).cell? ⟨w.heap.size,0,none⟩ = some (.string p.1):=qb0
     replace qb1 : ((((w2.alloc (.cells #[] 29)).alloc (.cells #[.string p.1,.string p.2] 29))).drew).cell? ⟨w.heap.size,1,none⟩ = some (.string p.2):=qb1
     replace qc0 : ((((w2.alloc (.cells #[.string p.1,.string p.2] 29)).alloc (.cells #[] 29))).drew).cell? ⟨w.heap.size,0,none⟩ = some (.string p.1):=qc0
     replace qc1 : ((((w2.alloc (.cells #[.string p.1,.string p.2] 29)).alloc (.cells #[] 29))).drew).cell? ⟨w.heap.size,1,none⟩ = some (.string p.2):=qc1
     replace hxB : ∀ j,j < 2 → ((((w2.alloc (.cells #[] 29)).alloc (.cells #[.string p.1,.string p.2] 29))).drew).cell? ⟨w2.heap.size + 1,j,none⟩ = some (encHandle p j):=hxB
     replace hxC : ∀ j,j < 2 → ((((w2.alloc (.cells #[.string p.1,.string p.2] 29)).alloc (.cells #[] 29))).drew).cell? ⟨w2.heap.size,j,none⟩ = some (encHandle p j):=hxC
     clear hr2 hgA hgB hgC hgP
     rcases hS with ⟨hAn,_⟩ | ⟨b',off',hA',hcap,hmx⟩
     ·cases hAn
     ·cases hA'
      unfold maxLen at hmx
      have hkc : (k : Int) ≤ (cap : Int):=by omega
      have hlc : (ps.length : Int) ≤ (cap : Int):=by omega
      have hck : ¬ cap = k:=by omega
      have hdrop : ∀ {v : World},RdE 2 encHandle v B (some ⟨b,off,none⟩) ps → RdE 2 encHandle v B (some ⟨b,off + k * 2,none⟩) (ps.drop k):=fun h => RdE.drop h
      go_wp2_with fail
      go_region_held3 (fun w' => w'.cell? ⟨w.heap.size,0,none⟩ = some (.string p.1) ∧ w'.cell? ⟨w.heap.size,1,none⟩ = some (.string p.2)) (first | exact ⟨s0,s1⟩ | exact ⟨qa0,qa1⟩ | exact ⟨qb0,qb1⟩ | exact ⟨qc0,qc1⟩ | exact ⟨qp0,qp1⟩ | exact ⟨t0,t1⟩ | exact ⟨v0,v1⟩ | exact ⟨y0,y1⟩ | go_keep) (first
       | (refine step_app (by rfl) (.tmp 26) (.tmp 29) _ (by rfl) (w.heap.size + 1) 29 _ 2 32 Tryz.underlying31 info_Handle rfl (by omega) (some ⟨w2.heap.size,0,none⟩) (some ⟨b,off,none⟩) 0 0 k cap _ (cE 2 encHandle ([] : List ElHandle)) (cE 2 encHandle (ps.take k)) (by simp [go_sem]) (by simp [go_sem]) hempA (RdE.len (hrA.take k) hlk) (fun _ _ => encHandle_one _ _) (by simp only [maxLen]; omega) (by omega) (by first | omega | (simp; done) | (simp; omega)) ?_; intro T1 cap1 w3 hown1 hg1; have hb3:=grown_below hg1 (fun b hb => (Own.lt hempA hb).1) (by first | omega | (simp; done) | (simp; omega));have t0:=(hb3.cell (p:=⟨w.heap.size,0,none⟩) (by show w.heap.size < w.heap.size + 1; omega)).trans qa0; have t1:=(hb3.cell (p:=⟨w.heap.size,1,none⟩) (by show w.heap.size < w.heap.size + 1; omega)).trans qa1; have hown1':=OwnE.first hown1 hlk; have z3:=hb3.size; rw [szA] at z3; have z3' : w.heap.size + 1 ≤ w3.heap.size:=(by omega);have hr3':=hrA.below (hb3.mono (by omega));have c3:=hbeA.trans (hb3.mono (by omega)); clear hown1 hg1)
       | (refine step_app (by rfl) (.tmp 26) (.tmp 29) _ (by rfl) (w.heap.size + 1) 29 _ 2 32 Tryz.underlying31 info_Handle rfl (by omega) (some ⟨w2.heap.size,0,none⟩) (some ⟨b,off,none⟩) 0 0 k cap _ (cE 2 encHandle ([] : List ElHandle)) (cE 2 encHandle (ps.take k)) (by simp [go_sem]) (by simp [go_sem]) hempB (RdE.len (hrB.take k) hlk) (fun _ _ => encHandle_one _ _) (by simp only [maxLen]; omega) (by omega) (by first | omega | (simp; done) | (simp; omega)) ?_; intro T1 cap1 w3 hown1 hg1; have hb3:=grown_below hg1 (fun b hb => (Own.lt hempB hb).1) (by first | omega | (simp; done) | (simp; omega));have t0:=(hb3.cell (p:=⟨w.heap.size,0,none⟩) (by show w.heap.size < w.heap.size + 1; omega)).trans qb0; have t1:=(hb3.cell (p:=⟨w.heap.size,1,none⟩) (by show w.heap.size < w.heap.size + 1; omega)).trans qb1; have hown1':=OwnE.first hown1 hlk; have z3:=hb3.size; rw [szB] at z3; have z3' : w.heap.size + 1 ≤ w3.heap.size:=(by omega);have hr3':=hrB.below (hb3.mono (by omega));have c3:=hbeB.trans (hb3.mono (by omega));have hp1:=elem_kept (enc:=encHandle) (y:=p) (w2.heap.size + 1) hg1 (by first | omega | (simp; done) | (simp; omega)) (.inr (by first | (simp [blk]; done) | (simp [blk]; omega))) hxB; clear hown1 hg1)
       | (refine step_app (by rfl) (.tmp 26) (.tmp 29) _ (by rfl) (w.heap.size + 1) 29 _ 2 32 Tryz.underlying31 info_Handle rfl (by omega) (some ⟨w2.heap.size + 1,0,none⟩) (some ⟨b,off,none⟩) 0 0 k cap _ (cE 2 encHandle ([] : List ElHandle)) (cE 2 encHandle (ps.take k)) (by simp [go_sem]) (by simp [go_sem]) hempC (RdE.len (hrC.take k) hlk) (fun _ _ => encHandle_one _ _) (by simp only [maxLen]; omega) (by omega) (by first | omega | (simp; done) | (simp; omega)) ?_; intro T1 cap1 w3 hown1 hg1; have hb3:=grown_below hg1 (fun b hb => (Own.lt hempC hb).1) (by first | omega | (simp; done) | (simp; omega));have t0:=(hb3.cell (p:=⟨w.heap.size,0,none⟩) (by show w.heap.size < w.heap.size + 1; omega)).trans qc0; have t1:=(hb3.cell (p:=⟨w.heap.size,1,none⟩) (by show w.heap.size < w.heap.size + 1; omega)).trans qc1; have hown1':=OwnE.first hown1 hlk; have z3:=hb3.size; rw [szC] at z3; have z3' : w.heap.size + 1 ≤ w3.heap.size:=(by omega);have hr3':=hrC.below (hb3.mono (by omega));have c3:=hbeC.trans (hb3.mono (by omega));have hp1:=elem_kept (enc:=encHandle) (y:=p) w2.heap.size hg1 (by first | omega | (simp; done) | (simp; omega)) (.inr (by first | (simp [blk]; done) | (simp [blk]; omega))) hxC; clear hown1 hg1)
       | (refine step_app (by rfl) (.tmp 30) (.tmp 32) _ (by rfl) (w.heap.size + 1) 29 _ 2 32 Tryz.underlying31 info_Handle rfl (by omega) T1 (some ⟨w3.heap.size,0,none⟩) k cap1 1 1 _ (cE 2 encHandle (ps.take k)) (encHandle p) (by simp [go_sem]) (by simp [go_sem]) (Own.below (OwnE.own hown1' hlk) ((Below.refl _ _).alloc (Nat.le_refl _) _)) (rd_elem _ _ _ _ (fun j hj => by rcases (by omega : j = 0 ∨ j = 1) with rfl | rfl <;> rfl)) (fun _ _ => encHandle_one _ _) (by simp only [maxLen]; omega) (by omega) (by first | omega | (simp; done) | (simp; omega)) ?_; intro T2 cap2 w4 hown2 hg2; have hb4:=((Below.refl (w.heap.size + 1) w3).alloc (by omega) _).trans (grown_below hg2 (fun b hb => (Own.lt hown1' hb).1) (by first | omega | (simp; done) | (simp; omega)));have hown2':=OwnE.push (by omega) hlk hown2; have z4:=hb4.size; have v0:=(hb4.cell (p:=⟨w.heap.size,0,none⟩) (by show w.heap.size < w.heap.size + 1; omega)).trans t0; have v1:=(hb4.cell (p:=⟨w.heap.size,1,none⟩) (by show w.heap.size < w.heap.size + 1; omega)).trans t1; clear hown2 hg2)
       | (refine step_app (by rfl) (.tmp 30) (.tmp 32) _ (by rfl) (w.heap.size + 1) 29 _ 2 32 Tryz.underlying31 info_Handle rfl (by omega) T1 (some ⟨w2.heap.size + 1,0,none⟩) k cap1 1 1 _ (cE 2 encHandle (ps.take k)) (encHandle p) (by simp [go_sem]) (by simp [go_sem]) (OwnE.own hown1' hlk) hp1 (fun _ _ => encHandle_one _ _) (by simp only [maxLen]; omega) (by omega) (by first | omega | (simp; done) | (simp; omega)) ?_; intro T2 cap2 w4 hown2 hg2; have hb4:=grown_below hg2 (fun b hb => (Own.lt hown1' hb).1) (by first | omega | (simp; done) | (simp; omega));have hown2':=OwnE.push (by omega) hlk hown2; have z4:=hb4.size; have v0:=(hb4.cell (p:=⟨w.heap.size,0,none⟩) (by show w.heap.size < w.heap.size + 1; omega)).trans t0; have v1:=(hb4.cell (p:=⟨w.heap.size,1,none⟩) (by show w.heap.size < w.heap.size + 1; omega)).trans t1; clear hown2 hg2)
       | (refine step_app (by rfl) (.tmp 30) (.tmp 32) _ (by rfl) (w.heap.size + 1) 29 _ 2 32 Tryz.underlying31 info_Handle rfl (by omega) T1 (some ⟨w2.heap.size,0,none⟩) k cap1 1 1 _ (cE 2 encHandle (ps.take k)) (encHandle p) (by simp [go_sem]) (by simp [go_sem]) (OwnE.own hown1' hlk) hp1 (fun _ _ => encHandle_one _ _) (by simp only [maxLen]; omega) (by omega) (by first | omega | (simp; done) | (simp; omega)) ?_; intro T2 cap2 w4 hown2 hg2; have hb4:=grown_below hg2 (fun b hb => (Own.lt hown1' hb).1) (by first | omega | (simp; done) | (simp; omega));have hown2':=OwnE.push (by omega) hlk hown2; have z4:=hb4.size; have v0:=(hb4.cell (p:=⟨w.heap.size,0,none⟩) (by show w.heap.size < w.heap.size + 1; omega)).trans t0; have v1:=(hb4.cell (p:=⟨w.heap.size,1,none⟩) (by show w.heap.size < w.heap.size + 1; omega)).trans t1; clear hown2 hg2)
       | (refine step_app (by rfl) (.tmp 33) (.tmp 36) _ (by rfl) (w.heap.size + 1) 29 _ 2 32 Tryz.underlying31 info_Handle rfl (by omega) T2 (some ⟨b,off + k * 2,none⟩) (k + 1) cap2 (ps.length - k) (cap - k) _ (cE 2 encHandle ((ps.take k) ++ [p])) (cE 2 encHandle (ps.drop k)) (by simp [go_sem]) (by simp [go_sem]) (OwnE.own hown2' hlk1) (RdE.len ((hdrop hr3').below (hb4.mono (by omega))) hld) (fun _ _ => encHandle_one _ _) (by simp only [maxLen]; omega) (by omega) (by first | omega | (simp; done) | (simp; omega)) ?_; intro T3 cap3 w5 hown3 hg3; have hb5:=grown_below hg3 (fun b hb => (Own.lt hown2' hb).1) (by omega);have y0:=(hb5.cell (p:=⟨w.heap.size,0,none⟩) (by show w.heap.size < w.heap.size + 1; omega)).trans v0; have y1:=(hb5.cell (p:=⟨w.heap.size,1,none⟩) (by show w.heap.size < w.heap.size + 1; omega)).trans v1; have hown3':=OwnE.join (by omega) hlk1 hld hown3; rw [← hins.out] at hown3'; clear hown3 hg3))
      all_goals
       have hlen : k + 1 + (ps.length - k) = (insF ps p).length:=by rw [insF_len]; first | omega | rfl
       have c5:=(c3.trans (hb4.mono (by omega))).trans (hb5.mono (by omega))
       have hr5 : RdE 2 encHandle w5 B (some ⟨b,off,none⟩) ps:=(hr3'.below (hb4.mono (by omega))).below (hb5.mono (by omega))
       have hs5 : w.heap.size + 1 ≤ w5.heap.size:=by have:=hb5.size; omega
       clear hb3 hb4 hb5 hr3' hown1' hown2' hempA hempB hempC hrA hrB hrC hbeA hbeB hbeC qa0 qa1 qb0 qb1 qc0 qc1 qp0 qp1 t0 t1 v0 v1 y0 y1 s0 s1 hbw2 hxB hxC c3 hdrop
       rw [hlen]
       by_cases hv2 : fvB (insF ps p) = true
       ·have HE:=Lib.hid (folOf_yes hv hv2)
        go_wp2_with (go_at_call 80; refine (specFollowersValid_any _ _ _ (insF ps p) w5 hown3'.rd (Nat.le_refl _) (by omega) HSI.out).mono ?_; rintro e w6 ⟨rfl,hb6⟩)
        go_ret2
        rw [HE.out.1,HE.out.2]
        exact ⟨T3,cap3,rfl,Own.more (Own.below hown3' hb6) (by omega),c5.trans (hb6.mono (by omega))⟩
       ·have hv2' : fvB (insF ps p) = false:=by simpa using hv2
        have HE:=Lib.hid (folOf_no hv hv2')
        clear hv2
        go_wp2_with (first
         | (go_at_call 80; refine (specFollowersValid_any _ _ _ (insF ps p) w5 hown3'.rd (Nat.le_refl _) (by omega) HSI.out).mono ?_; rintro e w6 ⟨rfl,hb6⟩; have hs6:=hb6.size; have c6:=c5.trans (hb6.mono (by omega));have c6':=c6.alloc (by omega) (.cells #[] 29);have hr6:=(hr5.below (hb6.mono (by omega))).alloc (by omega) (.cells #[] 29);have own6 : Own (w6.alloc (.cells #[] 29)) w.heap.size 29 2 (some ⟨w6.heap.size,0,none⟩) 0 0 (cE 2 encHandle ([] : List ElHandle)):=Own.more (Own.lit w6 29 2 0 #[] (cE 2 encHandle ([] : List ElHandle)) (Nat.zero_le _) rfl) (by omega))
         | (at_builtin; refine wpList_app rfl (.tmp 41) (.tmp 42) _ rfl w.heap.size 29 _ 2 32 Tryz.underlying31 info_Handle rfl (by omega) (some ⟨w6.heap.size,0,none⟩) (some ⟨b,off,none⟩) 0 0 ps.length cap B (cE 2 encHandle ([] : List ElHandle)) (cE 2 encHandle ps) rfl rfl own6 hr6 (fun _ _ => encHandle_one _ _) (by simp only [maxLen]; omega) (by omega) (by simp; omega) ?_; intro T8 cap8 w8 hown8 hg8))
        go_ret2
        rw [HE.out.1,HE.out.2]
        exact ⟨T8,cap8,by simp,OwnE.first hown8 rfl,c6'.trans (grown_below hg8 (fun b hb => (Own.lt own6 hb).1) (by simp; omega))⟩
    ·have hlt2 : decide ((k : Int) < (ps.length : Int)) = false:=by simp; omega
     have hlt3 : decide (k < ps.length) = false:=by simp; omega
     clear hgo
     go_wp2_with fail
     go_quiet (fail)
     have s0 : (wr.drewN nq).cell? ⟨w.heap.size,0,none⟩ = some (.string p.1):=q0
     have s1 : (wr.drewN nq).cell? ⟨w.heap.size,1,none⟩ = some (.string p.2):=q1
     have hr2 : RdE 2 encHandle (wr.drewN nq) B A ps:=hrr
     have hbw2:=below_drewN hbw nq
     have hsz2 : w.heap.size + 1 ≤ (wr.drewN nq).heap.size:=by show w.heap.size + 1 ≤ wr.heap.size; omega
     clear q0 q1 hlt2 hlt3 hrr hbw hbl
     generalize wr.drewN nq = w2 at *
     have hempA : Own (w2.alloc (.cells #[] 29)) (w.heap.size + 1) 29 2 (some ⟨w2.heap.size,0,none⟩) 0 0 (cE 2 encHandle ([] : List ElHandle)):=Own.more (Own.lit w2 29 2 0 #[] (cE 2 encHandle ([] : List ElHandle)) (Nat.zero_le _) rfl) (by first | omega | (simp; done) | (simp; omega))
     have hempB : Own ((w2.alloc (.cells #[] 29)).alloc (.cells #[.string p.1,.string p.2] 29)) (w.heap.size + 1) 29 2 (some ⟨w2.heap.size,0,none⟩) 0 0 (cE 2 encHandle ([] : List ElHandle)):=Own.below hempA ((Below.refl _ _).alloc (Nat.le_refl _) _)
     have hempC : Own ((w2.alloc (.cells #[.string p.1,.string p.2] 29)).alloc (.cells #[] 29)) (w.heap.size + 1) 29 2 (some ⟨w2.heap.size + 1,0,none⟩) 0 0 (cE 2 encHandle ([] : List ElHandle)):=by
      have:=Own.lit (w2.alloc (.cells #[.string p.1,.string p.2] 29)) 29 2 0 #[] (cE 2 encHandle ([] : List ElHandle)) (Nat.zero_le _) rfl
      rw [show ((w2.alloc (.cells #[.string p.1,.string p.2] 29))).heap.size = w2.heap.size + 1 by simp] at this
      exact Own.more this (by omega)
     have hgA : Below (w.heap.size + 1) w2 (w2.alloc (.cells #[] 29)):=(Below.refl (w.heap.size + 1) w2).alloc (by omega) _
     have hgB : Below (w.heap.size + 1) w2 ((w2.alloc (.cells #[] 29)).alloc (.cells #[.string p.1,.string p.2] 29)):=hgA.alloc (by first | omega | (simp; done) | (simp; omega)) _
     have hgP : Below (w.heap.size + 1) w2 (w2.alloc (.cells #[.string p.1,.string p.2] 29)):=(Below.refl (w.heap.size + 1) w2).alloc (by omega) _
     have hgC : Below (w.heap.size + 1) w2 ((w2.alloc (.cells #[.string p.1,.string p.2] 29)).alloc (.cells #[] 29)):=hgP.alloc (by first | omega | (simp; done) | (simp; omega)) _
     have hbeA:=hbw2.trans (hgA.mono (Nat.le_succ _))
     have hbeB:=hbw2.trans (hgB.mono (Nat.le_succ _))
     have hbeC:=hbw2.trans (hgC.mono (Nat.le_succ _))
     have qa0:=(hgA.cell (p:=⟨w.heap.size,0,none⟩) (by show w.heap.size < w.heap.size + 1; omega)).trans s0
     have qa1:=(hgA.cell (p:=⟨w.heap.size,1,none⟩) (by show w.heap.size < w.heap.size + 1; omega)).trans s1
     have qb0:=(hgB.cell (p:=⟨w.heap.size,0,none⟩) (by show w.heap.size < w.heap.size + 1; omega)).trans s0
     have qb1:=(hgB.cell (p:=⟨w.heap.size,1,none⟩) (by show w.heap.size < w.heap.size + 1; omega)).trans s1
     have qp0:=(hgP.cell (p:=⟨w.heap.size,0,none⟩) (by show w.heap.size < w.heap.size + 1; omega)).trans s0
     have qp1:=(hgP.cell (p:=⟨w.heap.size,1,none⟩) (by show w.heap.size < w.heap.size + 1; omega)).trans s1
     have qc0:=(hgC.cell (p:=⟨w.heap.size,0,none⟩) (by show w.heap.size < w.heap.size + 1; omega)).trans s0
     have qc1:=(hgC.cell (p:=⟨w.heap.size,1,none⟩) (by show w.heap.size < w.heap.size + 1; omega)).trans s1
     have hrA : RdE 2 encHandle (w2.alloc (.cells #[] 29)) B A ps:=hr2.below (hgA.mono (by omega))
     have hrB : RdE 2 encHandle ((w2.alloc (.cells #[] 29)).alloc (.cells #[.string p.1,.string p.2] 29)) B A ps:=hr2.below (hgB.mono (by omega))
     have hrC : RdE 2 encHandle ((w2.alloc (.cells #[.string p.1,.string p.2] 29)).alloc (.cells #[] 29)) B A ps:=hr2.below (hgC.mono (by omega))
     have hxB : ∀ j,j < 2 → (((w2.alloc (.cells #[] 29)).alloc (.cells #[.string p.1,.string p.2] 29))).cell? ⟨w2.heap.size + 1,j,none⟩ = some (encHandle p j):=fun j hj => by
      rw [World.cell?_alloc_at _ _ _ _ (by simp)]; rcases (by omega : j = 0 ∨ j = 1) with rfl | rfl <;> rfl
     have hxC : ∀ j,j < 2 → (((w2.alloc (.cells #[.string p.1,.string p.2] 29)).alloc (.cells #[] 29))).cell? ⟨w2.heap.size,j,none⟩ = some (encHandle p j):=fun j hj => by
      rw [((Below.refl (w2.heap.size + 1) (w2.alloc (.cells #[.string p.1,.string p.2] 29))).alloc (by simp) _).cell (by show w2.heap.size < w2.heap.size + 1; omega),World.cell?_alloc_at _ _ _ _ rfl]; rcases (by omega : j = 0 ∨ j = 1) with rfl | rfl <;> rfl
     have hlk : (ps.take k).length = k:=by simp; omega
     have hlk1 : (ps.take k ++ [p]).length = k + 1:=by simp; omega
     have hld : (ps.drop k).length = ps.length - k:=by simp
     have hk0 : (0 : Int) ≤ (k : Int):=Int.natCast_nonneg _
     have hkl : (k : Int) ≤ (ps.length : Int):=by omega
     have szA : ((w2.alloc (.cells #[] 29))).drew.heap.size = w2.heap.size + 1:=by simp
     have szB : (((w2.alloc (.cells #[] 29)).alloc (.cells #[.string p.1,.string p.2] 29))).drew.heap.size = w2.heap.size + 1 + 1:=by simp
     have szC : (((w2.alloc (.cells #[.string p.1,.string p.2] 29)).alloc (.cells #[] 29))).drew.heap.size = w2.heap.size + 1 + 1:=by simp
     replace hempA : Own ((w2.alloc (.cells #[] 29))).drew (w.heap.size + 1) 29 2 (some ⟨w2.heap.size,0,none⟩) 0 0 (cE 2 encHandle ([] : List ElHandle)):=hempA
     replace hempB : Own (((w2.alloc (.cells #[] 29)).alloc (.cells #[.string p.1,.string p.2] 29))).drew (w.heap.size + 1) 29 2 (some ⟨w2.heap.size,0,none⟩) 0 0 (cE 2 encHandle ([] : List ElHandle)):=hempB
     replace hempC : Own (((w2.alloc (.cells #[.string p.1,.string p.2] 29)).alloc (.cells #[] 29))).drew (w.heap.size + 1) 29 2 (some ⟨w2.heap.size + 1,0,none⟩) 0 0 (cE 2 encHandle ([] : List ElHandle)):=hempC
     replace hrA : RdE 2 encHandle ((w2.alloc (.cells #[] 29))).drew B A ps:=hrA
     replace hrB : RdE 2 encHandle (((w2.alloc (.cells #[] 29)).alloc (.cells #[.string p.1,.string p.2] 29))).drew B A ps:=hrB
     replace hrC : RdE 2 encHandle (((w2.alloc (.cells #[.string p.1,.string p.2] 29)).alloc (.cells #[] 29))).drew B A ps:=hrC
     replace hbeA:=hbeA.drew
     replace hbeB:=hbeB.drew
     replace hbeC:=hbeC.drew
     replace qa0 : (((w2.alloc (.cells #[] 29))).drew).cell? ⟨w.heap.size,0,none⟩ = some (.string p.1):=qa0
     replace qa1 : (((w2.alloc (.cells #[] 29))).drew).cell? ⟨w.heap.size,1,none⟩ = some (.string p.2):=qa1
     replace qb0 : ((((w2.alloc (.cells #[] 29)).alloc (.cells #[.string p.1,.string p.2] 29))).drew).cell? ⟨w.heap.size,0,none⟩ = some (.string p.1):=qb0
     replace qb1 : ((((w2.alloc (.cells #[] 29)).alloc (.cells #[.string p.1,.string p.2] 29))).drew).cell? ⟨w.heap.size,1,none⟩ = some (.string p.2):=qb1
     replace qc0 : ((((w2.alloc (.cells #[.string p.1,.string p.2] 29)).alloc (.cells #[] 29))).drew).cell? ⟨w.heap.size,0,none⟩ = some (.string p.1):=qc0
     replace qc1 : ((((w2.alloc (.cells #[.string p.1,.string p.2] 29)).alloc (.cells #[] 29))).drew).cell? ⟨w.heap.size,1,none⟩ = some (.string p.2):=qc1
     replace hxB : ∀ j,j < 2 → ((((w2.alloc (.cells #[] 29)).alloc (.cells #[.string p.1,.string p.2] 29))).drew).cell? ⟨w2.heap.size + 1,j,none⟩ = some (encHandle p j):=hxB
     replace hxC : ∀ j,j < 2 → ((((w2.alloc (.cells #[.string p.1,.string p.2] 29)).alloc (.cells #[] 29))).drew).cell? ⟨w2.heap.size,j,none⟩ = some (encHandle p j):=hxC
     clear hr2 hgA hgB hgC hgP
     rcases hS with ⟨rfl,h0,rfl⟩ | ⟨b,off,rfl,hcap,hmx⟩
     ·have hx : ps = []:=List.eq_nil_of_length_eq_zero h0
      subst hx
      obtain rfl : k = 0:=by simpa using hk
      have hdrop : ∀ {v : World},RdE 2 encHandle v B none ([] : List ElHandle) → RdE 2 encHandle v B none (([] : List ElHandle).drop 0):=fun _ => RdE.nil
      go_wp2_with fail
      go_region_held3 (fun w' => w'.cell? ⟨w.heap.size,0,none⟩ = some (.string p.1) ∧ w'.cell? ⟨w.heap.size,1,none⟩ = some (.string p.2)) (first | exact ⟨s0,s1⟩ | exact ⟨qa0,qa1⟩ | exact ⟨qb0,qb1⟩ | exact ⟨qc0,qc1⟩ | exact ⟨qp0,qp1⟩ | exact ⟨t0,t1⟩ | exact ⟨v0,v1⟩ | exact ⟨y0,y1⟩ | go_keep) (first
       | (refine step_app (by rfl) (.tmp 26) (.tmp 29) _ (by rfl) (w.heap.size + 1) 29 _ 2 32 Tryz.underlying31 info_Handle rfl (by omega) (some ⟨w2.heap.size,0,none⟩) none 0 0 0 0 _ (cE 2 encHandle ([] : List ElHandle)) (cE 2 encHandle (([] : List ElHandle).take 0)) (by simp [go_sem]) (by simp [go_sem]) hempA (RdE.len (hrA.take 0) hlk) (fun _ _ => encHandle_one _ _) (by simp only [maxLen]; omega) (by omega) (by first | omega | (simp; done) | (simp; omega)) ?_; intro T1 cap1 w3 hown1 hg1; have hb3:=grown_below hg1 (fun b hb => (Own.lt hempA hb).1) (by first | omega | (simp; done) | (simp; omega));have t0:=(hb3.cell (p:=⟨w.heap.size,0,none⟩) (by show w.heap.size < w.heap.size + 1; omega)).trans qa0; have t1:=(hb3.cell (p:=⟨w.heap.size,1,none⟩) (by show w.heap.size < w.heap.size + 1; omega)).trans qa1; have hown1':=OwnE.first hown1 hlk; have z3:=hb3.size; rw [szA] at z3; have z3' : w.heap.size + 1 ≤ w3.heap.size:=(by omega);have hr3':=hrA.below (hb3.mono (by omega));have c3:=hbeA.trans (hb3.mono (by omega)); clear hown1 hg1)
       | (refine step_app (by rfl) (.tmp 26) (.tmp 29) _ (by rfl) (w.heap.size + 1) 29 _ 2 32 Tryz.underlying31 info_Handle rfl (by omega) (some ⟨w2.heap.size,0,none⟩) none 0 0 0 0 _ (cE 2 encHandle ([] : List ElHandle)) (cE 2 encHandle (([] : List ElHandle).take 0)) (by simp [go_sem]) (by simp [go_sem]) hempB (RdE.len (hrB.take 0) hlk) (fun _ _ => encHandle_one _ _) (by simp only [maxLen]; omega) (by omega) (by first | omega | (simp; done) | (simp; omega)) ?_; intro T1 cap1 w3 hown1 hg1; have hb3:=grown_below hg1 (fun b hb => (Own.lt hempB hb).1) (by first | omega | (simp; done) | (simp; omega));have t0:=(hb3.cell (p:=⟨w.heap.size,0,none⟩) (by show w.heap.size < w.heap.size + 1; omega)).trans qb0; have t1:=(hb3.cell (p:=⟨w.heap.size,1,none⟩) (by show w.heap.size < w.heap.size + 1; omega)).trans qb1; have hown1':=OwnE.first hown1 hlk; have z3:=hb3.size; rw [szB] at z3; have z3' : w.heap.size + 1 ≤ w3.heap.size:=(by omega);have hr3':=hrB.below (hb3.mono (by omega));have c3:=hbeB.trans (hb3.mono (by omega));have hp1:=elem_kept (enc:=encHandle) (y:=p) (w2.heap.size + 1) hg1 (by first | omega | (simp; done) | (simp; omega)) (.inr (by first | (simp [blk]; done) | (simp [blk]; omega))) hxB; clear hown1 hg1)
       | (refine step_app (by rfl) (.tmp 26) (.tmp 29) _ (by rfl) (w.heap.size + 1) 29 _ 2 32 Tryz.underlying31 info_Handle rfl (by omega) (some ⟨w2.heap.size + 1,0,none⟩) none 0 0 0 0 _ (cE 2 encHandle ([] : List ElHandle)) (cE 2 encHandle (([] : List ElHandle).take 0)) (by simp [go_sem]) (by simp [go_sem]) hempC (RdE.len (hrC.take 0) hlk) (fun _ _ => encHandle_one _ _) (by simp only [maxLen]; omega) (by omega) (by first | omega | (simp; done) | (simp; omega)) ?_; intro T1 cap1 w3 hown1 hg1; have hb3:=grown_below hg1 (fun b hb => (Own.lt hempC hb).1) (by first | omega | (simp; done) | (simp; omega));have t0:=(hb3.cell (p:=⟨w.heap.size,0,none⟩) (by show w.heap.size < w.heap.size + 1; omega)).trans qc0; have t1:=(hb3.cell (p:=⟨w.heap.size,1,none⟩) (by show w.heap.size < w.heap.size + 1; omega)).trans qc1; have hown1':=OwnE.first hown1 hlk; have z3:=hb3.size; rw [szC] at z3; have z3' : w.heap.size + 1 ≤ w3.heap.size:=(by omega);have hr3':=hrC.below (hb3.mono (by omega));have c3:=hbeC.trans (hb3.mono (by omega));have hp1:=elem_kept (enc:=encHandle) (y:=p) w2.heap.size hg1 (by first | omega | (simp; done) | (simp; omega)) (.inr (by first | (simp [blk]; done) | (simp [blk]; omega))) hxC; clear hown1 hg1)
       | (refine step_app (by rfl) (.tmp 30) (.tmp 32) _ (by rfl) (w.heap.size + 1) 29 _ 2 32 Tryz.underlying31 info_Handle rfl (by omega) T1 (some ⟨w3.heap.size,0,none⟩) 0 cap1 1 1 _ (cE 2 encHandle (([] : List ElHandle).take 0)) (encHandle p) (by simp [go_sem]) (by simp [go_sem]) (Own.below (OwnE.own hown1' hlk) ((Below.refl _ _).alloc (Nat.le_refl _) _)) (rd_elem _ _ _ _ (fun j hj => by rcases (by omega : j = 0 ∨ j = 1) with rfl | rfl <;> rfl)) (fun _ _ => encHandle_one _ _) (by simp only [maxLen]; omega) (by omega) (by first | omega | (simp; done) | (simp; omega)) ?_; intro T2 cap2 w4 hown2 hg2; have hb4:=((Below.refl (w.heap.size + 1) w3).alloc (by omega) _).trans (grown_below hg2 (fun b hb => (Own.lt hown1' hb).1) (by first | omega | (simp; done) | (simp; omega)));have hown2':=OwnE.push (by omega) hlk hown2; have z4:=hb4.size; have v0:=(hb4.cell (p:=⟨w.heap.size,0,none⟩) (by show w.heap.size < w.heap.size + 1; omega)).trans t0; have v1:=(hb4.cell (p:=⟨w.heap.size,1,none⟩) (by show w.heap.size < w.heap.size + 1; omega)).trans t1; clear hown2 hg2)
       | (refine step_app (by rfl) (.tmp 30) (.tmp 32) _ (by rfl) (w.heap.size + 1) 29 _ 2 32 Tryz.underlying31 info_Handle rfl (by omega) T1 (some ⟨w2.heap.size + 1,0,none⟩) 0 cap1 1 1 _ (cE 2 encHandle (([] : List ElHandle).take 0)) (encHandle p) (by simp [go_sem]) (by simp [go_sem]) (OwnE.own hown1' hlk) hp1 (fun _ _ => encHandle_one _ _) (by simp only [maxLen]; omega) (by omega) (by first | omega | (simp; done) | (simp; omega)) ?_; intro T2 cap2 w4 hown2 hg2; have hb4:=grown_below hg2 (fun b hb => (Own.lt hown1' hb).1) (by first | omega | (simp; done) | (simp; omega));have hown2':=OwnE.push (by omega) hlk hown2; have z4:=hb4.size; have v0:=(hb4.cell (p:=⟨w.heap.size,0,none⟩) (by show w.heap.size < w.heap.size + 1; omega)).trans t0; have v1:=(hb4.cell (p:=⟨w.heap.size,1,none⟩) (by show w.heap.size < w.heap.size + 1; omega)).trans t1; clear hown2 hg2)
       | (refine step_app (by rfl) (.tmp 30) (.tmp 32) _ (by rfl) (w.heap.size + 1) 29 _ 2 32 Tryz.underlying31 info_Handle rfl (by omega) T1 (some ⟨w2.heap.size,0,none⟩) 0 cap1 1 1 _ (cE 2 encHandle (([] : List ElHandle).take 0)) (encHandle p) (by simp [go_sem]) (by simp [go_sem]) (OwnE.own hown1' hlk) hp1 (fun _ _ => encHandle_one _ _) (by simp only [maxLen]; omega) (by omega) (by first | omega | (simp; done) | (simp; omega)) ?_; intro T2 cap2 w4 hown2 hg2; have hb4:=grown_below hg2 (fun b hb => (Own.lt hown1' hb).1) (by first | omega | (simp; done) | (simp; omega));have hown2':=OwnE.push (by omega) hlk hown2; have z4:=hb4.size; have v0:=(hb4.cell (p:=⟨w.heap.size,0,none⟩) (by show w.heap.size < w.heap.size + 1; omega)).trans t0; have v1:=(hb4.cell (p:=⟨w.heap.size,1,none⟩) (by show w.heap.size < w.heap.size + 1; omega)).trans t1; clear hown2 hg2)
       | (refine step_app (by rfl) (.tmp 33) (.tmp 36) _ (by rfl) (w.heap.size + 1) 29 _ 2 32 Tryz.underlying31 info_Handle rfl (by omega) T2 none (0 + 1) cap2 0 0 _ (cE 2 encHandle ((([] : List ElHandle).take 0) ++ [p])) (cE 2 encHandle (([] : List ElHandle).drop 0)) (by simp [go_sem]) (by simp [go_sem]) (OwnE.own hown2' hlk1) (RdE.len ((hdrop hr3').below (hb4.mono (by omega))) hld) (fun _ _ => encHandle_one _ _) (by simp only [maxLen]; omega) (by omega) (by first | omega | (simp; done) | (simp; omega)) ?_; intro T3 cap3 w5 hown3 hg3; have hb5:=grown_below hg3 (fun b hb => (Own.lt hown2' hb).1) (by omega);have y0:=(hb5.cell (p:=⟨w.heap.size,0,none⟩) (by show w.heap.size < w.heap.size + 1; omega)).trans v0; have y1:=(hb5.cell (p:=⟨w.heap.size,1,none⟩) (by show w.heap.size < w.heap.size + 1; omega)).trans v1; have hown3':=OwnE.join (by omega) hlk1 hld hown3; rw [← hins.out] at hown3'; clear hown3 hg3))
      all_goals
       have hlen : 0 + 1 + 0 = (insF ([] : List ElHandle) p).length:=by rw [insF_len]; first | omega | rfl
       have c5:=(c3.trans (hb4.mono (by omega))).trans (hb5.mono (by omega))
       have hr5 : RdE 2 encHandle w5 B none ([] : List ElHandle):=(hr3'.below (hb4.mono (by omega))).below (hb5.mono (by omega))
       have hs5 : w.heap.size + 1 ≤ w5.heap.size:=by have:=hb5.size; omega
       clear hb3 hb4 hb5 hr3' hown1' hown2' hempA hempB hempC hrA hrB hrC hbeA hbeB hbeC qa0 qa1 qb0 qb1 qc0 qc1 qp0 qp1 t0 t1 v0 v1 y0 y1 s0 s1 hbw2 hxB hxC c3 hdrop
       rw [hlen]
       by_cases hv2 : fvB (insF ([] : List ElHandle) p) = true
       ·have HE:=Lib.hid (folOf_yes hv hv2)
        go_wp2_with (go_at_call 80; refine (specFollowersValid_any _ _ _ (insF ([] : List ElHandle) p) w5 hown3'.rd (Nat.le_refl _) (by omega) HSI.out).mono ?_; rintro e w6 ⟨rfl,hb6⟩)
        go_ret2
        rw [HE.out.1,HE.out.2]
        exact ⟨T3,cap3,rfl,Own.more (Own.below hown3' hb6) (by omega),c5.trans (hb6.mono (by omega))⟩
       ·have hv2' : fvB (insF ([] : List ElHandle) p) = false:=by simpa using hv2
        have HE:=Lib.hid (folOf_no hv hv2')
        clear hv2
        go_wp2_with (first
         | (go_at_call 80; refine (specFollowersValid_any _ _ _ (insF ([] : List ElHandle) p) w5 hown3'.rd (Nat.le_refl _) (by omega) HSI.out).mono ?_; rintro e w6 ⟨rfl,hb6⟩; have hs6:=hb6.size; have c6:=c5.trans (hb6.mono (by omega));have c6':=c6.alloc (by omega) (.cells #[] 29);have hr6:=(hr5.below (hb6.mono (by omega))).alloc (by omega) (.cells #[] 29);have own6 : Own (w6.alloc (.cells #[] 29)) w.heap.size 29 2 (some ⟨w6.heap.size,0,none⟩) 0 0 (cE 2 encHandle ([] : List ElHandle)):=Own.more (Own.lit w6 29 2 0 #[] (cE 2 encHandle ([] : List ElHandle)) (Nat.zero_le _) rfl) (by omega))
         | (at_builtin; refine wpList_app rfl (.tmp 41) (.tmp 42) _ rfl w.heap.size 29 _ 2 32 Tryz.underlying31 info_Handle rfl (by omega) (some ⟨w6.heap.size,0,none⟩) none 0 0 0 0 B (cE 2 encHandle ([] : List ElHandle)) (cE 2 encHandle ([] : List ElHandle)) rfl rfl own6 hr6 (fun _ _ => encHandle_one _ _) (by simp only [maxLen]; omega) (by omega) (by simp; omega) ?_; intro T8 cap8 w8 hown8 hg8))
        go_ret2
        rw [HE.out.1,HE.out.2]
        exact ⟨T8,cap8,by simp,OwnE.first hown8 rfl,c6'.trans (grown_below hg8 (fun b hb => (Own.lt own6 hb).1) (by simp; omega))⟩
     ·unfold maxLen at hmx
      have hkc : (k : Int) ≤ (cap : Int):=by omega
      have hlc : (ps.length : Int) ≤ (cap : Int):=by omega
      have hkn : k = ps.length:=by omega
      have hld0 : (ps.drop k).length = 0:=by rw [hld]; omega
      clear hld
      have hld:=hld0
      have hps : ps.length ≤ k:=by omega
      by_cases hck : cap = k
      ·have hck2:=hck.symm
       subst hck2
       have hkn2:=hkn
       have hkl2 : ps.length - k = 0:=by omega
       have hdrop : ∀ {v : World},RdE 2 encHandle v B (some ⟨b,off,none⟩) ps → RdE 2 encHandle v B (some ⟨b,off,none⟩) (ps.drop k):=fun _ hp => by rw [hld0] at hp; omega
       clear hkn hkn2
       go_wp2_with fail
       go_region_held3 (fun w' => w'.cell? ⟨w.heap.size,0,none⟩ = some (.string p.1) ∧ w'.cell? ⟨w.heap.size,1,none⟩ = some (.string p.2)) (first | exact ⟨s0,s1⟩ | exact ⟨qa0,qa1⟩ | exact ⟨qb0,qb1⟩ | exact ⟨qc0,qc1⟩ | exact ⟨qp0,qp1⟩ | exact ⟨t0,t1⟩ | exact ⟨v0,v1⟩ | exact ⟨y0,y1⟩ | go_keep) (first
        | (refine step_app (by rfl) (.tmp 26) (.tmp 29) _ (by rfl) (w.heap.size + 1) 29 _ 2 32 Tryz.underlying31 info_Handle rfl (by omega) (some ⟨w2.heap.size,0,none⟩) (some ⟨b,off,none⟩) 0 0 k k _ (cE 2 encHandle ([] : List ElHandle)) (cE 2 encHandle (ps.take k)) (by simp [go_sem]) (by simp [go_sem]) hempA (RdE.len (hrA.take k) hlk) (fun _ _ => encHandle_one _ _) (by simp only [maxLen]; omega) (by omega) (by first | omega | (simp; done) | (simp; omega)) ?_; intro T1 cap1 w3 hown1 hg1; have hb3:=grown_below hg1 (fun b hb => (Own.lt hempA hb).1) (by first | omega | (simp; done) | (simp; omega));have t0:=(hb3.cell (p:=⟨w.heap.size,0,none⟩) (by show w.heap.size < w.heap.size + 1; omega)).trans qa0; have t1:=(hb3.cell (p:=⟨w.heap.size,1,none⟩) (by show w.heap.size < w.heap.size + 1; omega)).trans qa1; have hown1':=OwnE.first hown1 hlk; have z3:=hb3.size; rw [szA] at z3; have z3' : w.heap.size + 1 ≤ w3.heap.size:=(by omega);have hr3':=hrA.below (hb3.mono (by omega));have c3:=hbeA.trans (hb3.mono (by omega)); clear hown1 hg1)
        | (refine step_app (by rfl) (.tmp 26) (.tmp 29) _ (by rfl) (w.heap.size + 1) 29 _ 2 32 Tryz.underlying31 info_Handle rfl (by omega) (some ⟨w2.heap.size,0,none⟩) (some ⟨b,off,none⟩) 0 0 k k _ (cE 2 encHandle ([] : List ElHandle)) (cE 2 encHandle (ps.take k)) (by simp [go_sem]) (by simp [go_sem]) hempB (RdE.len (hrB.take k) hlk) (fun _ _ => encHandle_one _ _) (by simp only [maxLen]; omega) (by omega) (by first | omega | (simp; done) | (simp; omega)) ?_; intro T1 cap1 w3 hown1 hg1; have hb3:=grown_below hg1 (fun b hb => (Own.lt hempB hb).1) (by first | omega | (simp; done) | (simp; omega));have t0:=(hb3.cell (p:=⟨w.heap.size,0,none⟩) (by show w.heap.size < w.heap.size + 1; omega)).trans qb0; have t1:=(hb3.cell (p:=⟨w.heap.size,1,none⟩) (by show w.heap.size < w.heap.size + 1; omega)).trans qb1; have hown1':=OwnE.first hown1 hlk; have z3:=hb3.size; rw [szB] at z3; have z3' : w.heap.size + 1 ≤ w3.heap.size:=(by omega);have hr3':=hrB.below (hb3.mono (by omega));have c3:=hbeB.trans (hb3.mono (by omega));have hp1:=elem_kept (enc:=encHandle) (y:=p) (w2.heap.size + 1) hg1 (by first | omega | (simp; done) | (simp; omega)) (.inr (by first | (simp [blk]; done) | (simp [blk]; omega))) hxB; clear hown1 hg1)
        | (refine step_app (by rfl) (.tmp 26) (.tmp 29) _ (by rfl) (w.heap.size + 1) 29 _ 2 32 Tryz.underlying31 info_Handle rfl (by omega) (some ⟨w2.heap.size + 1,0,none⟩) (some ⟨b,off,none⟩) 0 0 k k _ (cE 2 encHandle ([] : List ElHandle)) (cE 2 encHandle (ps.take k)) (by simp [go_sem]) (by simp [go_sem]) hempC (RdE.len (hrC.take k) hlk) (fun _ _ => encHandle_one _ _) (by simp only [maxLen]; omega) (by omega) (by first | omega | (simp; done) | (simp; omega)) ?_; intro T1 cap1 w3 hown1 hg1; have hb3:=grown_below hg1 (fun b hb => (Own.lt hempC hb).1) (by first | omega | (simp; done) | (simp; omega));have t0:=(hb3.cell (p:=⟨w.heap.size,0,none⟩) (by show w.heap.size < w.heap.size + 1; omega)).trans qc0; have t1:=(hb3.cell (p:=⟨w.heap.size,1,none⟩) (by show w.heap.size < w.heap.size + 1; omega)).trans qc1; have hown1':=OwnE.first hown1 hlk; have z3:=hb3.size; rw [szC] at z3; have z3' : w.heap.size + 1 ≤ w3.heap.size:=(by omega);have hr3':=hrC.below (hb3.mono (by omega));have c3:=hbeC.trans (hb3.mono (by omega));have hp1:=elem_kept (enc:=encHandle) (y:=p) w2.heap.size hg1 (by first | omega | (simp; done) | (simp; omega)) (.inr (by first | (simp [blk]; done) | (simp [blk]; omega))) hxC; clear hown1 hg1)
        | (refine step_app (by rfl) (.tmp 30) (.tmp 32) _ (by rfl) (w.heap.size + 1) 29 _ 2 32 Tryz.underlying31 info_Handle rfl (by omega) T1 (some ⟨w3.heap.size,0,none⟩) k cap1 1 1 _ (cE 2 encHandle (ps.take k)) (encHandle p) (by simp [go_sem]) (by simp [go_sem]) (Own.below (OwnE.own hown1' hlk) ((Below.refl _ _).alloc (Nat.le_refl _) _)) (rd_elem _ _ _ _ (fun j hj => by rcases (by omega : j = 0 ∨ j = 1) with rfl | rfl <;> rfl)) (fun _ _ => encHandle_one _ _) (by simp only [maxLen]; omega) (by omega) (by first | omega | (simp; done) | (simp; omega)) ?_; intro T2 cap2 w4 hown2 hg2; have hb4:=((Below.refl (w.heap.size + 1) w3).alloc (by omega) _).trans (grown_below hg2 (fun b hb => (Own.lt hown1' hb).1) (by first | omega | (simp; done) | (simp; omega)));have hown2':=OwnE.push (by omega) hlk hown2; have z4:=hb4.size; have v0:=(hb4.cell (p:=⟨w.heap.size,0,none⟩) (by show w.heap.size < w.heap.size + 1; omega)).trans t0; have v1:=(hb4.cell (p:=⟨w.heap.size,1,none⟩) (by show w.heap.size < w.heap.size + 1; omega)).trans t1; clear hown2 hg2)
        | (refine step_app (by rfl) (.tmp 30) (.tmp 32) _ (by rfl) (w.heap.size + 1) 29 _ 2 32 Tryz.underlying31 info_Handle rfl (by omega) T1 (some ⟨w2.heap.size + 1,0,none⟩) k cap1 1 1 _ (cE 2 encHandle (ps.take k)) (encHandle p) (by simp [go_sem]) (by simp [go_sem]) (OwnE.own hown1' hlk) hp1 (fun _ _ => encHandle_one _ _) (by simp only [maxLen]; omega) (by omega) (by first | omega | (simp; done) | (simp; omega)) ?_; intro T2 cap2 w4 hown2 hg2; have hb4:=grown_below hg2 (fun b hb => (Own.lt hown1' hb).1) (by first | omega | (simp; done) | (simp; omega));have hown2':=OwnE.push (by omega) hlk hown2; have z4:=hb4.size; have v0:=(hb4.cell (p:=⟨w.heap.size,0,none⟩) (by show w.heap.size < w.heap.size + 1; omega)).trans t0; have v1:=(hb4.cell (p:=⟨w.heap.size,1,none⟩) (by show w.heap.size < w.heap.size + 1; omega)).trans t1; clear hown2 hg2)
        | (refine step_app (by rfl) (.tmp 30) (.tmp 32) _ (by rfl) (w.heap.size + 1) 29 _ 2 32 Tryz.underlying31 info_Handle rfl (by omega) T1 (some ⟨w2.heap.size,0,none⟩) k cap1 1 1 _ (cE 2 encHandle (ps.take k)) (encHandle p) (by simp [go_sem]) (by simp [go_sem]) (OwnE.own hown1' hlk) hp1 (fun _ _ => encHandle_one _ _) (by simp only [maxLen]; omega) (by omega) (by first | omega | (simp; done) | (simp; omega)) ?_; intro T2 cap2 w4 hown2 hg2; have hb4:=grown_below hg2 (fun b hb => (Own.lt hown1' hb).1) (by first | omega | (simp; done) | (simp; omega));have hown2':=OwnE.push (by omega) hlk hown2; have z4:=hb4.size; have v0:=(hb4.cell (p:=⟨w.heap.size,0,none⟩) (by show w.heap.size < w.heap.size + 1; omega)).trans t0; have v1:=(hb4.cell (p:=⟨w.heap.size,1,none⟩) (by show w.heap.size < w.heap.size + 1; omega)).trans t1; clear hown2 hg2)
        | (refine step_app (by rfl) (.tmp 33) (.tmp 36) _ (by rfl) (w.heap.size + 1) 29 _ 2 32 Tryz.underlying31 info_Handle rfl (by omega) T2 (some ⟨b,off,none⟩) (k + 1) cap2 0 0 _ (cE 2 encHandle ((ps.take k) ++ [p])) (cE 2 encHandle (ps.drop k)) (by simp [go_sem]) (by simp [go_sem]) (OwnE.own hown2' hlk1) (RdE.len ((hdrop hr3').below (hb4.mono (by omega))) hld) (fun _ _ => encHandle_one _ _) (by simp only [maxLen]; omega) (by omega) (by first | omega | (simp; done) | (simp; omega)) ?_; intro T3 cap3 w5 hown3 hg3; have hb5:=grown_below hg3 (fun b hb => (Own.lt hown2' hb).1) (by omega);have y0:=(hb5.cell (p:=⟨w.heap.size,0,none⟩) (by show w.heap.size < w.heap.size + 1; omega)).trans v0; have y1:=(hb5.cell (p:=⟨w.heap.size,1,none⟩) (by show w.heap.size < w.heap.size + 1; omega)).trans v1; have hown3':=OwnE.join (by omega) hlk1 hld hown3; rw [← hins.out] at hown3'; clear hown3 hg3))
       all_goals
        have hlen : k + 1 + 0 = (insF ps p).length:=by rw [insF_len]; first | omega | rfl
        have c5:=(c3.trans (hb4.mono (by omega))).trans (hb5.mono (by omega))
        have hr5 : RdE 2 encHandle w5 B (some ⟨b,off,none⟩) ps:=(hr3'.below (hb4.mono (by omega))).below (hb5.mono (by omega))
        have hs5 : w.heap.size + 1 ≤ w5.heap.size:=by have:=hb5.size; omega
        clear hb3 hb4 hb5 hr3' hown1' hown2' hempA hempB hempC hrA hrB hrC hbeA hbeB hbeC qa0 qa1 qb0 qb1 qc0 qc1 qp0 qp1 t0 t1 v0 v1 y0 y1 s0 s1 hbw2 hxB hxC c3 hdrop
        rw [hlen]
        by_cases hv2 : fvB (insF ps p) = true
        ·have HE:=Lib.hid (folOf_yes hv hv2)
         go_wp2_with (go_at_call 80; refine (specFollowersValid_any _ _ _ (insF ps p) w5 hown3'.rd (Nat.le_refl _) (by omega) HSI.out).mono ?_; rintro e w6 ⟨rfl,hb6⟩)
         go_ret2
         rw [HE.out.1,HE.out.2]
         exact ⟨T3,cap3,rfl,Own.more (Own.below hown3' hb6) (by omega),c5.trans (hb6.mono (by omega))⟩
        ·have hv2' : fvB (insF ps p) = false:=by simpa using hv2
         have HE:=Lib.hid (folOf_no hv hv2')
         clear hv2
         go_wp2_with (first
          | (go_at_call 80; refine (specFollowersValid_any _ _ _ (insF ps p) w5 hown3'.rd (Nat.le_refl _) (by omega) HSI.out).mono ?_; rintro e w6 ⟨rfl,hb6⟩; have hs6:=hb6.size; have c6:=c5.trans (hb6.mono (by omega));have c6':=c6.alloc (by omega) (.cells #[] 29);have hr6:=(hr5.below (hb6.mono (by omega))).alloc (by omega) (.cells #[] 29);have own6 : Own (w6.alloc (.cells #[] 29)) w.heap.size 29 2 (some ⟨w6.heap.size,0,none⟩) 0 0 (cE 2 encHandle ([] : List ElHandle)):=Own.more (Own.lit w6 29 2 0 #[] (cE 2 encHandle ([] : List ElHandle)) (Nat.zero_le _) rfl) (by omega))
          | (at_builtin; refine wpList_app rfl (.tmp 41) (.tmp 42) _ rfl w.heap.size 29 _ 2 32 Tryz.underlying31 info_Handle rfl (by omega) (some ⟨w6.heap.size,0,none⟩) (some ⟨b,off,none⟩) 0 0 ps.length k B (cE 2 encHandle ([] : List ElHandle)) (cE 2 encHandle ps) rfl rfl own6 hr6 (fun _ _ => encHandle_one _ _) (by simp only [maxLen]; omega) (by omega) (by simp; omega) ?_; intro T8 cap8 w8 hown8 hg8))
         go_ret2
         rw [HE.out.1,HE.out.2]
         exact ⟨T8,cap8,by simp,OwnE.first hown8 rfl,c6'.trans (grown_below hg8 (fun b hb => (Own.lt own6 hb).1) (by simp; omega))⟩
      ·have hdrop : ∀ {v : World},RdE 2 encHandle v B (some ⟨b,off,none⟩) ps → RdE 2 encHandle v B (some ⟨b,off + k * 2,none⟩) (ps.drop k):=fun h => RdE.drop h
       clear hkn
       go_wp2_with fail
       go_region_held3 (fun w' => w'.cell? ⟨w.heap.size,0,none⟩ = some (.string p.1) ∧ w'.cell? ⟨w.heap.size,1,none⟩ = some (.string p.2)) (first | exact ⟨s0,s1⟩ | exact ⟨qa0,qa1⟩ | exact ⟨qb0,qb1⟩ | exact ⟨qc0,qc1⟩ | exact ⟨qp0,qp1⟩ | exact ⟨t0,t1⟩ | exact ⟨v0,v1⟩ | exact ⟨y0,y1⟩ | go_keep) (first
        | (refine step_app (by rfl) (.tmp 26) (.tmp 29) _ (by rfl) (w.heap.size + 1) 29 _ 2 32 Tryz.underlying31 info_Handle rfl (by omega) (some ⟨w2.heap.size,0,none⟩) (some ⟨b,off,none⟩) 0 0 k cap _ (cE 2 encHandle ([] : List ElHandle)) (cE 2 encHandle (ps.take k)) (by simp [go_sem]) (by simp [go_sem]) hempA (RdE.len (hrA.take k) hlk) (fun _ _ => encHandle_one _ _) (by simp only [maxLen]; omega) (by omega) (by first | omega | (simp; done) | (simp; omega)) ?_; intro T1 cap1 w3 hown1 hg1; have hb3:=grown_below hg1 (fun b hb => (Own.lt hempA hb).1) (by first | omega | (simp; done) | (simp; omega));have t0:=(hb3.cell (p:=⟨w.heap.size,0,none⟩) (by show w.heap.size < w.heap.size + 1; omega)).trans qa0; have t1:=(hb3.cell (p:=⟨w.heap.size,1,none⟩) (by show w.heap.size < w.heap.size + 1; omega)).trans qa1; have hown1':=OwnE.first hown1 hlk; have z3:=hb3.size; rw [szA] at z3; have z3' : w.heap.size + 1 ≤ w3.heap.size:=(by omega);have hr3':=hrA.below (hb3.mono (by omega));have c3:=hbeA.trans (hb3.mono (by omega)); clear hown1 hg1)
        | (refine step_app (by rfl) (.tmp 26) (.tmp 29) _ (by rfl) (w.heap.size + 1) 29 _ 2 32 Tryz.underlying31 info_Handle rfl (by omega) (some ⟨w2.heap.size,0,none⟩) (some ⟨b,off,none⟩) 0 0 k cap _ (cE 2 encHandle ([] : List ElHandle)) (cE 2 encHandle (ps.take k)) (by simp [go_sem]) (by simp [go_sem]) hempB (RdE.len (hrB.take k) hlk) (fun _ _ => encHandle_one _ _) (by simp only [maxLen]; omega) (by omega) (by first | omega | (simp; done) | (simp; omega)) ?_; intro T1 cap1 w3 hown1 hg1; have hb3:=grown_below hg1 (fun b hb => (Own.lt hempB hb).1) (by first | omega | (simp; done) | (simp; omega));have t0:=(hb3.cell (p:=⟨w.heap.size,0,none⟩) (by show w.heap.size < w.heap.size + 1; omega)).trans qb0; have t1:=(hb3.cell (p:=⟨w.heap.size,1,none⟩) (by show w.heap.size < w.heap.size + 1; omega)).trans qb1; have hown1':=OwnE.first hown1 hlk; have z3:=hb3.size; rw [szB] at z3; have z3' : w.heap.size + 1 ≤ w3.heap.size:=(by omega);have hr3':=hrB.below (hb3.mono (by omega));have c3:=hbeB.trans (hb3.mono (by omega));have hp1:=elem_kept (enc:=encHandle) (y:=p) (w2.heap.size + 1) hg1 (by first | omega | (simp; done) | (simp; omega)) (.inr (by first | (simp [blk]; done) | (simp [blk]; omega))) hxB; clear hown1 hg1)
        | (refine step_app (by rfl) (.tmp 26) (.tmp 29) _ (by rfl) (w.heap.size + 1) 29 _ 2 32 Tryz.underlying31 info_Handle rfl (by omega) (some ⟨w2.heap.size + 1,0,none⟩) (some ⟨b,off,none⟩) 0 0 k cap _ (cE 2 encHandle ([] : List ElHandle)) (cE 2 encHandle (ps.take k)) (by simp [go_sem]) (by simp [go_sem]) hempC (RdE.len (hrC.take k) hlk) (fun _ _ => encHandle_one _ _) (by simp only [maxLen]; omega) (by omega) (by first | omega | (simp; done) | (simp; omega)) ?_; intro T1 cap1 w3 hown1 hg1; have hb3:=grown_below hg1 (fun b hb => (Own.lt hempC hb).1) (by first | omega | (simp; done) | (simp; omega));have t0:=(hb3.cell (p:=⟨w.heap.size,0,none⟩) (by show w.heap.size < w.heap.size + 1; omega)).trans qc0; have t1:=(hb3.cell (p:=⟨w.heap.size,1,none⟩) (by show w.heap.size < w.heap.size + 1; omega)).trans qc1; have hown1':=OwnE.first hown1 hlk; have z3:=hb3.size; rw [szC] at z3; have z3' : w.heap.size + 1 ≤ w3.heap.size:=(by omega);have hr3':=hrC.below (hb3.mono (by omega));have c3:=hbeC.trans (hb3.mono (by omega));have hp1:=elem_kept (enc:=encHandle) (y:=p) w2.heap.size hg1 (by first | omega | (simp; done) | (simp; omega)) (.inr (by first | (simp [blk]; done) | (simp [blk]; omega))) hxC; clear hown1 hg1)
        | (refine step_app (by rfl) (.tmp 30) (.tmp 32) _ (by rfl) (w.heap.size + 1) 29 _ 2 32 Tryz.underlying31 info_Handle rfl (by omega) T1 (some ⟨w3.heap.size,0,none⟩) k cap1 1 1 _ (cE 2 encHandle (ps.take k)) (encHandle p) (by simp [go_sem]) (by simp [go_sem]) (Own.below (OwnE.own hown1' hlk) ((Below.refl _ _).alloc (Nat.le_refl _) _)) (rd_elem _ _ _ _ (fun j hj => by rcases (by omega : j = 0 ∨ j = 1) with rfl | rfl <;> rfl)) (fun _ _ => encHandle_one _ _) (by simp only [maxLen]; omega) (by omega) (by first | omega | (simp; done) | (simp; omega)) ?_; intro T2 cap2 w4 hown2 hg2; have hb4:=((Below.refl (w.heap.size + 1) w3).alloc (by omega) _).trans (grown_below hg2 (fun b hb => (Own.lt hown1' hb).1) (by first | omega | (simp; done) | (simp; omega)));have hown2':=OwnE.push (by omega) hlk hown2; have z4:=hb4.size; have v0:=(hb4.cell (p:=⟨w.heap.size,0,none⟩) (by show w.heap.size < w.heap.size + 1; omega)).trans t0; have v1:=(hb4.cell (p:=⟨w.heap.size,1,none⟩) (by show w.heap.size < w.heap.size + 1; omega)).trans t1; clear hown2 hg2)
        | (refine step_app (by rfl) (.tmp 30) (.tmp 32) _ (by rfl) (w.heap.size + 1) 29 _ 2 32 Tryz.underlying31 info_Handle rfl (by omega) T1 (some ⟨w2.heap.size + 1,0,none⟩) k cap1 1 1 _ (cE 2 encHandle (ps.take k)) (encHandle p) (by simp [go_sem]) (by simp [go_sem]) (OwnE.own hown1' hlk) hp1 (fun _ _ => encHandle_one _ _) (by simp only [maxLen]; omega) (by omega) (by first | omega | (simp; done) | (simp; omega)) ?_; intro T2 cap2 w4 hown2 hg2; have hb4:=grown_below hg2 (fun b hb => (Own.lt hown1' hb).1) (by first | omega | (simp; done) | (simp; omega));have hown2':=OwnE.push (by omega) hlk hown2; have z4:=hb4.size; have v0:=(hb4.cell (p:=⟨w.heap.size,0,none⟩) (by show w.heap.size < w.heap.size + 1; omega)).trans t0; have v1:=(hb4.cell (p:=⟨w.heap.size,1,none⟩) (by show w.heap.size < w.heap.size + 1; omega)).trans t1; clear hown2 hg2)
        | (refine step_app (by rfl) (.tmp 30) (.tmp 32) _ (by rfl) (w.heap.size + 1) 29 _ 2 32 Tryz.underlying31 info_Handle rfl (by omega) T1 (some ⟨w2.heap.size,0,none⟩) k cap1 1 1 _ (cE 2 encHandle (ps.take k)) (encHandle p) (by simp [go_sem]) (by simp [go_sem]) (OwnE.own hown1' hlk) hp1 (fun _ _ => encHandle_one _ _) (by simp only [maxLen]; omega) (by omega) (by first | omega | (simp; done) | (simp; omega)) ?_; intro T2 cap2 w4 hown2 hg2; have hb4:=grown_below hg2 (fun b hb => (Own.lt hown1' hb).1) (by first | omega | (simp; done) | (simp; omega));have hown2':=OwnE.push (by omega) hlk hown2; have z4:=hb4.size; have v0:=(hb4.cell (p:=⟨w.heap.size,0,none⟩) (by show w.heap.size < w.heap.size + 1; omega)).trans t0; have v1:=(hb4.cell (p:=⟨w.heap.size,1,none⟩) (by show w.heap.size < w.heap.size + 1; omega)).trans t1; clear hown2 hg2)
        | (refine step_app (by rfl) (.tmp 33) (.tmp 36) _ (by rfl) (w.heap.size + 1) 29 _ 2 32 Tryz.underlying31 info_Handle rfl (by omega) T2 (some ⟨b,off + k * 2,none⟩) (k + 1) cap2 0 (cap - k) _ (cE 2 encHandle ((ps.take k) ++ [p])) (cE 2 encHandle (ps.drop k)) (by simp [go_sem]) (by simp [go_sem]) (OwnE.own hown2' hlk1) (RdE.len ((hdrop hr3').below (hb4.mono (by omega))) hld) (fun _ _ => encHandle_one _ _) (by simp only [maxLen]; omega) (by omega) (by first | omega | (simp; done) | (simp; omega)) ?_; intro T3 cap3 w5 hown3 hg3; have hb5:=grown_below hg3 (fun b hb => (Own.lt hown2' hb).1) (by omega);have y0:=(hb5.cell (p:=⟨w.heap.size,0,none⟩) (by show w.heap.size < w.heap.size + 1; omega)).trans v0; have y1:=(hb5.cell (p:=⟨w.heap.size,1,none⟩) (by show w.heap.size < w.heap.size + 1; omega)).trans v1; have hown3':=OwnE.join (by omega) hlk1 hld hown3; rw [← hins.out] at hown3'; clear hown3 hg3))
       all_goals
        have hlen : k + 1 + 0 = (insF ps p).length:=by rw [insF_len]; first | omega | rfl
        have c5:=(c3.trans (hb4.mono (by omega))).trans (hb5.mono (by omega))
        have hr5 : RdE 2 encHandle w5 B (some ⟨b,off,none⟩) ps:=(hr3'.below (hb4.mono (by omega))).below (hb5.mono (by omega))
        have hs5 : w.heap.size + 1 ≤ w5.heap.size:=by have:=hb5.size; omega
        clear hb3 hb4 hb5 hr3' hown1' hown2' hempA hempB hempC hrA hrB hrC hbeA hbeB hbeC qa0 qa1 qb0 qb1 qc0 qc1 qp0 qp1 t0 t1 v0 v1 y0 y1 s0 s1 hbw2 hxB hxC c3 hdrop
        rw [hlen]
        by_cases hv2 : fvB (insF ps p) = true
        ·have HE:=Lib.hid (folOf_yes hv hv2)
         go_wp2_with (go_at_call 80; refine (specFollowersValid_any _ _ _ (insF ps p) w5 hown3'.rd (Nat.le_refl _) (by omega) HSI.out).mono ?_; rintro e w6 ⟨rfl,hb6⟩)
         go_ret2
         rw [HE.out.1,HE.out.2]
         exact ⟨T3,cap3,rfl,Own.more (Own.below hown3' hb6) (by omega),c5.trans (hb6.mono (by omega))⟩
        ·have hv2' : fvB (insF ps p) = false:=by simpa using hv2
         have HE:=Lib.hid (folOf_no hv hv2')
         clear hv2
         go_wp2_with (first
          | (go_at_call 80; refine (specFollowersValid_any _ _ _ (insF ps p) w5 hown3'.rd (Nat.le_refl _) (by omega) HSI.out).mono ?_; rintro e w6 ⟨rfl,hb6⟩; have hs6:=hb6.size; have c6:=c5.trans (hb6.mono (by omega));have c6':=c6.alloc (by omega) (.cells #[] 29);have hr6:=(hr5.below (hb6.mono (by omega))).alloc (by omega) (.cells #[] 29);have own6 : Own (w6.alloc (.cells #[] 29)) w.heap.size 29 2 (some ⟨w6.heap.size,0,none⟩) 0 0 (cE 2 encHandle ([] : List ElHandle)):=Own.more (Own.lit w6 29 2 0 #[] (cE 2 encHandle ([] : List ElHandle)) (Nat.zero_le _) rfl) (by omega))
          | (at_builtin; refine wpList_app rfl (.tmp 41) (.tmp 42) _ rfl w.heap.size 29 _ 2 32 Tryz.underlying31 info_Handle rfl (by omega) (some ⟨w6.heap.size,0,none⟩) (some ⟨b,off,none⟩) 0 0 ps.length cap B (cE 2 encHandle ([] : List ElHandle)) (cE 2 encHandle ps) rfl rfl own6 hr6 (fun _ _ => encHandle_one _ _) (by simp only [maxLen]; omega) (by omega) (by simp; omega) ?_; intro T8 cap8 w8 hown8 hg8))
         go_ret2
         rw [HE.out.1,HE.out.2]
         exact ⟨T8,cap8,by simp,OwnE.first hown8 rfl,c6'.trans (grown_below hg8 (fun b hb => (Own.lt own6 hb).1) (by simp; omega))⟩
 ·have hv' : fvB ps = false:=by simpa using hv
  obtain ⟨e1,e2⟩:=folOf_bad (p:=p) hv'
  rw [e1,e2]
  clear hv e1 e2
  go_enter Tryz.func37,Tryz.ntmps37
  go_wp2_with (go_at_call 80; refine (specFollowersValid_any _ _ B ps _ (h.below (hbA.mono hB)) (Nat.le_trans hB hbA.size) hl HSZ.out).mono ?_; rintro e w1 ⟨rfl,hb1⟩)
  go_ret2
  exact ⟨_,_,rfl,Own.more (Own.lit _ _ 2 0 _ _ (Nat.zero_le _) rfl) (by have:=(hbA.trans (hb1.mono hbA.size)).size; omega),(hbA.trans (hb1.mono hbA.size)).alloc (by have:=(hbA.trans (hb1.mono hbA.size)).size; omega) _⟩
end Go.Proofs.YtfnmlffpnmmcdaaGreatDoor
