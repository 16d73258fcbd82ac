/- Parts of the proof, merged: RiA WithoutItem FollowE WithoutHandle UfA BlB FtA. -/
import Derived.Test.YtfnmlffpnmmcdaaGreatDoorMn3
import Derived.Test.YtfnmlffpnmmcdaaGreatDoorMn2
import Derived.Test.YtfnmlffpnmmcdaaGreatDoorMn4
import Derived.Test.YtfnmlffpnmmcdaaGreatDoorMn5
import Derived.StillTailTactics
import Derived.Deep.Cut
import Derived.Test.YtfnmlffpnmmcdaaGreatDoorMn1
namespace Go.Proofs.YtfnmlffpnmmcdaaGreatDoor
set_option maxRecDepth 100000
open Go.RowKit
set_option maxHeartbeats 3200000 in
theorem implReadItem_any (s : ByteArray) (w : World) (hs : s.size ≤ maxLen) (hT : EsTab w) : Calls Tryz.prog 100 #[.string s] w fun e w' => e = .returned (.tuple #[.agg #[.string (riOf s).1,.string (riOf s).2.1,.string (riOf s).2.2.1,.int .i64 (riOf s).2.2.2],.bool (riOk s)]) ∧ Below w.heap.size w w':=by
 have oR : OwnE 4 encItem 69 (w.alloc (.cells #[.string { data:=#[] },.string { data:=#[] },.string { data:=#[] },.int .i64 0] 69)) w.heap.size (some ⟨w.heap.size,0,none⟩) 1 [({ data:=#[] },{ data:=#[] },{ data:=#[] },0)]:=Own.lit w 69 4 1 #[.string { data:=#[] },.string { data:=#[] },.string { data:=#[] },.int .i64 0] (cE 4 encItem [({ data:=#[] },{ data:=#[] },{ data:=#[] },0)]) (by simp only [maxLen]; omega) rfl
 have hbA : Below w.heap.size w (w.alloc (.cells #[.string { data:=#[] },.string { data:=#[] },.string { data:=#[] },.int .i64 0] 69)):=(Below.refl _ _).alloc (Nat.le_refl _) _
 have hzA : w.heap.size < (w.alloc (.cells #[.string { data:=#[] },.string { data:=#[] },.string { data:=#[] },.int .i64 0] 69)).heap.size:=by simp
 have HT:=Lib.hid (hT.below hbA (Nat.le_refl _))
 clear hT
 have hev:=evB_at (elOf_valid s)
 have hl8:=hev.1
 have HEV:=Lib.hid (fun k (hk : k < (elOf s).length) => (show (gt (elOf s) k).1.size ≤ maxLen ∧ (gt (elOf s) k).2.size ≤ maxLen by
  have h:=hev.2 k hk
  unfold eB at h
  rw [Bool.and_eq_true] at h
  have h1:=(Word.of h.1).2.1
  have h2:=(Text.of h.2).1
  unfold maxLen; omega))
 clear hev
 cases ho : elOk s
 ·have HQ:=Lib.hid (ri_no (.inl ho))
  go_enter Tryz.func100,Tryz.ntmps100
  go_wp2_with fail
  generalize (w.alloc (.cells #[.string { data:=#[] },.string { data:=#[] },.string { data:=#[] },.int .i64 0] 69)) = wA at *
  have hcall:=implReadElements_any s wA hs HT.out
  rw [ho] at hcall
  have HC:=Lib.hid hcall
  clear hcall
  generalize hxs : elOf s = xs at *
  clear hxs
  refine HC.out.mono ?_
  rintro e w1 ⟨R,cR,rfl,oX,b1⟩
  have oR1:=Own.below oR b1
  have k1:=hbA.trans (b1.mono hbA.size)
  have z1:=k1.size
  have zz1 : w.heap.size < w1.heap.size:=Nat.lt_of_lt_of_le hzA b1.size
  have hX:=OwnE.rd oX
  clear HC
  have r0:=oR1.cell (b:=w.heap.size) rfl (j:=0) (by simp)
  have r1:=oR1.cell (b:=w.heap.size) rfl (j:=1) (by simp)
  have r2:=oR1.cell (b:=w.heap.size) rfl (j:=2) (by simp)
  have r3:=oR1.cell (b:=w.heap.size) rfl (j:=3) (by simp)
  have rf0:=oR1.frozen (b:=w.heap.size) rfl 0
  have rf1:=oR1.frozen (b:=w.heap.size) rfl 1
  have rf2:=oR1.frozen (b:=w.heap.size) rfl 2
  have rf3:=oR1.frozen (b:=w.heap.size) rfl 3
  have r0 : _ = some (Value.string { data:=#[] }):=r0
  have r1 : _ = some (Value.string { data:=#[] }):=r1
  have r2 : _ = some (Value.string { data:=#[] }):=r2
  have r3 : _ = some (Value.int .i64 0):=r3
  go_wp2_with fail
  exact bodyPost_ret (v:=.tuple #[.agg #[.string { data:=#[] },.string { data:=#[] },.string { data:=#[] },.int .i64 0],.bool false]) (by simp [results,Tryz.results100,go_sem,r0,r1,r2,r3]) rfl ⟨by rw [HQ.out.1,HQ.out.2]; first | done | rfl,(by first | exact k1 | exact ((((k1.setCell (p:=⟨w.heap.size,0,none⟩) (Nat.le_refl _) _).setCell (p:=⟨w.heap.size,1,none⟩) (Nat.le_refl _) _).setCell (p:=⟨w.heap.size,2,none⟩) (Nat.le_refl _) _).setCell (p:=⟨w.heap.size,3,none⟩) (Nat.le_refl _) _))⟩
 ·by_cases hb : tnOf (elOf s) (nms 3) ≤ 1
  ·have HB:=Lib.hid hb
   have HRS:=Lib.hid (fun h2 h3 => ri_yes (s:=s) ho h2 h3)
   have HRN:=Lib.hid (fun h => ri_no (s:=s) h)
   go_enter Tryz.func100,Tryz.ntmps100
   go_wp2_with fail
   generalize (w.alloc (.cells #[.string { data:=#[] },.string { data:=#[] },.string { data:=#[] },.int .i64 0] 69)) = wA at *
   have hcall:=implReadElements_any s wA hs HT.out
   rw [ho] at hcall
   have HC:=Lib.hid hcall
   clear hcall
   generalize hxs : elOf s = xs at *
   clear hxs
   refine HC.out.mono ?_
   rintro e w1 ⟨R,cR,rfl,oX,b1⟩
   have oR1:=Own.below oR b1
   have k1:=hbA.trans (b1.mono hbA.size)
   have z1:=k1.size
   have zz1 : w.heap.size < w1.heap.size:=Nat.lt_of_lt_of_le hzA b1.size
   have hX:=OwnE.rd oX
   clear HC
   have gt1 : decide ((1 : Int) < ((tnOf xs (nms 3) : Nat) : Int)) = false:=decide_eq_false (by omega)
   clear hb
   go_wp2_with fail
   refine (timesNamed_any R cR w1.heap.size xs (nms 3) w1 hX (Nat.le_refl _) (by omega)).mono ?_
   rintro e w2 ⟨rfl,b2⟩
   have k2:=k1.trans (b2.mono z1)
   have oR2:=Own.below oR1 b2
   have oN : Own (w2.alloc (.cells #[.string { data:=#[107,101,121] },.string { data:=#[116,105,116,108,101] },.string { data:=#[100,97,121] }] 9)) w1.heap.size 9 1 (some ⟨w2.heap.size,0,none⟩) 3 3 nmC:=Own.more (Own.lit w2 9 1 3 _ _ (by simp only [maxLen]; omega) rfl) b2.size
   have kN : Below w1.heap.size w1 (w2.alloc (.cells #[.string { data:=#[107,101,121] },.string { data:=#[116,105,116,108,101] },.string { data:=#[100,97,121] }] 9)):=b2.alloc b2.size _
   go_wp2_with fail
   go_loopw [7,26] (fun _ i wr => ∃ k : Nat,k ≤ 3 ∧ Hid (∀ j,j < k → tnOf xs (nms j) = 1) ∧ i = .int .i64 k ∧ Own wr w1.heap.size 9 1 (some ⟨w2.heap.size,0,none⟩) 3 3 nmC ∧ Below w1.heap.size w1 wr) (fun _ i _ => 3 - (intOf i).toNat)
   case atStart => exact ⟨0,Nat.zero_le _,Lib.hid (fun j hj => absurd hj (by omega)),rfl,oN,kN⟩
   case round =>
    clear oN kN b2 k2 oR2
    obtain ⟨k,hk,HO,rfl,oN,kr⟩:=hrel
    have kz:=kr.size
    have kw:=k1.trans (kr.mono z1)
    have hXr:=hX.below kr
    have hk0 : (0 : Int) ≤ (k : Int):=by omega
    by_cases hlt : k < 3
    ·have hki : (k : Int) < 3:=by omega
     have cn : wr.cell? ⟨w2.heap.size,k,none⟩ = some (.string (nms k)):=oN.cell rfl (j:=k) (by omega)
     have hcall:=timesNamed_any R cR w1.heap.size xs (nms k) wr hXr kz (by omega)
     have HC:=Lib.hid hcall
     clear hcall
     by_cases ht : tnOf xs (nms k) = 1
     ·have gt : (((tnOf xs (nms k) : Nat) : Int) != 1) = false:=by rw [ht]; rfl
      have HN:=Lib.hid (fun j (hj : j < k + 1) => (show tnOf xs (nms j) = 1 by
       rcases Nat.lt_succ_iff_lt_or_eq.1 hj with h | rfl
       ·exact HO.out j h
       ·exact ht))
      clear ht
      go_wp2_with fail
      refine HC.out.mono ?_
      rintro e w3 ⟨rfl,b3⟩
      have k3:=kr.trans (b3.mono kz)
      have oN3:=Own.below oN b3
      go_wp2_with fail
      go_roundw
      case rel => exact ⟨k + 1,by omega,HN,by go_num,oN3,k3⟩
      case measure => simp [intOf]; omega
     ·have gt : (((tnOf xs (nms k) : Nat) : Int) != 1) = true:=by rw [bne_iff_ne]; omega
      have HQ:=Lib.hid (HRN.out (.inr (.inl (fun h => ht (h.1 k hlt)))))
      clear ht
      go_wp2_with fail
      refine HC.out.mono ?_
      rintro e w3 ⟨rfl,b3⟩
      have k3:=kr.trans (b3.mono kz)
      have kw3:=k1.trans (k3.mono z1)
      have oR3:=Own.belowB oR1 k3 (fun b hb => by simp [blk] at hb; omega)
      have r0:=oR3.cell (b:=w.heap.size) rfl (j:=0) (by simp)
      have r1:=oR3.cell (b:=w.heap.size) rfl (j:=1) (by simp)
      have r2:=oR3.cell (b:=w.heap.size) rfl (j:=2) (by simp)
      have r3:=oR3.cell (b:=w.heap.size) rfl (j:=3) (by simp)
      have rf0:=oR3.frozen (b:=w.heap.size) rfl 0
      have rf1:=oR3.frozen (b:=w.heap.size) rfl 1
      have rf2:=oR3.frozen (b:=w.heap.size) rfl 2
      have rf3:=oR3.frozen (b:=w.heap.size) rfl 3
      have r0 : _ = some (Value.string { data:=#[] }):=r0
      have r1 : _ = some (Value.string { data:=#[] }):=r1
      have r2 : _ = some (Value.string { data:=#[] }):=r2
      have r3 : _ = some (Value.int .i64 0):=r3
      go_wp2_with fail
      exact bodyPost_ret (v:=.tuple #[.agg #[.string { data:=#[] },.string { data:=#[] },.string { data:=#[] },.int .i64 0],.bool false]) (by simp [results,Tryz.results100,go_sem,r0,r1,r2,r3]) rfl ⟨by rw [HQ.out.1,HQ.out.2]; first | done | rfl,(by first | exact kw3 | exact ((((kw3.setCell (p:=⟨w.heap.size,0,none⟩) (Nat.le_refl _) _).setCell (p:=⟨w.heap.size,1,none⟩) (Nat.le_refl _) _).setCell (p:=⟨w.heap.size,2,none⟩) (Nat.le_refl _) _).setCell (p:=⟨w.heap.size,3,none⟩) (Nat.le_refl _) _))⟩
    ·obtain rfl : k = 3:=by omega
     have hrk : rsOk xs:=⟨HO.out,HB.out⟩
     have o8 : Own (wr.alloc (.cells #[.string { data:=#[] },.string { data:=#[] },.string { data:=#[] },.int .i64 0] 69)) w1.heap.size 69 4 (some ⟨wr.heap.size,0,none⟩) 1 1 (cE 4 encItem [({ data:=#[] },{ data:=#[] },{ data:=#[] },0)]):=Own.more (Own.lit wr 69 4 1 _ _ (by simp only [maxLen]; omega) rfl) kz
     have q8 : Below w1.heap.size w1 (wr.alloc (.cells #[.string { data:=#[] },.string { data:=#[] },.string { data:=#[] },.int .i64 0] 69)):=kr.alloc kz _
     have hb8 : w1.heap.size ≤ wr.heap.size:=kz
     cases hv : ivB (riI xs)
     ·have HQ:=Lib.hid (HRN.out (.inr (.inr hv)))
      go_wp2_with fail
      generalize (wr.alloc (.cells #[.string { data:=#[] },.string { data:=#[] },.string { data:=#[] },.int .i64 0] 69)) = v0 at *
      refine (implElementText_any R cR w1.heap.size xs (nms 0) v0 (hX.below q8) q8.size (by omega) HEV.out).mono ?_
      rintro e u0 ⟨rfl,c0⟩
      have o0b:=Own.below o8 c0
      have q0b:=q8.trans (c0.mono q8.size)
      have y0:=o0b.cell rfl (j:=0) (by omega)
      have f0:=o0b.frozen rfl 0
      have s0:=o0b.set rfl (j:=0) (.string (etOf xs (nms 0)))
      have q0c:=q0b.trans (grown_below s0.2 (fun b hb => by simp [blk] at hb; omega) q0b.size)
      have o0c:=s0.1
      have y0 : _ = some (Value.string { data:=#[] }):=y0
      clear s0 o8 q8
      go_wp2_with fail
      generalize (u0.setCell ⟨wr.heap.size,0,none⟩ (.string (etOf xs (nms 0)))) = v1 at *
      refine (implElementText_any R cR w1.heap.size xs (nms 1) v1 (hX.below q0c) q0c.size (by omega) HEV.out).mono ?_
      rintro e u1 ⟨rfl,c1⟩
      have o1b:=Own.below o0c c1
      have q1b:=q0c.trans (c1.mono q0c.size)
      have y1:=o1b.cell rfl (j:=1) (by omega)
      have f1:=o1b.frozen rfl 1
      have s1:=o1b.set rfl (j:=1) (.string (etOf xs (nms 1)))
      have q1c:=q1b.trans (grown_below s1.2 (fun b hb => by simp [blk] at hb; omega) q1b.size)
      have o1c:=s1.1
      have y1 : _ = some (Value.string { data:=#[] }):=y1
      clear s1 
      go_wp2_with fail
      generalize (u1.setCell ⟨wr.heap.size,1,none⟩ (.string (etOf xs (nms 1)))) = v2 at *
      refine (implElementText_any R cR w1.heap.size xs (nms 3) v2 (hX.below q1c) q1c.size (by omega) HEV.out).mono ?_
      rintro e u2 ⟨rfl,c2⟩
      have o2b:=Own.below o1c c2
      have q2b:=q1c.trans (c2.mono q1c.size)
      have y2:=o2b.cell rfl (j:=2) (by omega)
      have f2:=o2b.frozen rfl 2
      have s2:=o2b.set rfl (j:=2) (.string (etOf xs (nms 3)))
      have q2c:=q2b.trans (grown_below s2.2 (fun b hb => by simp [blk] at hb; omega) q2b.size)
      have o2c:=s2.1
      have y2 : _ = some (Value.string { data:=#[] }):=y2
      clear s2 
      go_wp2_with fail
      generalize (u2.setCell ⟨wr.heap.size,2,none⟩ (.string (etOf xs (nms 3)))) = v3 at *
      refine (implElementText_any R cR w1.heap.size xs (nms 2) v3 (hX.below q2c) q2c.size (by omega) HEV.out).mono ?_
      rintro e u3 ⟨rfl,c3⟩
      have o3b:=Own.below o2c c3
      have q3b:=q2c.trans (c3.mono q2c.size)
      clear o2c q2c
      go_wp2_with fail
      refine (implReadDate_any (etOf xs (nms 2)) u3 (by have:=etOf_size xs (nms 2); unfold maxLen; omega)).mono ?_
      rintro e u4 ⟨rfl,c4⟩
      have o4b:=Own.below o3b c4
      have q4b:=q3b.trans (c4.mono q3b.size)
      clear o3b q3b c3 c4
      have y4:=o4b.cell rfl (j:=3) (by omega)
      have f4:=o4b.frozen rfl 3
      have s4:=o4b.set rfl (j:=3) (.int .i64 (rdD (etOf xs (nms 2))))
      have q4c:=q4b.trans (grown_below s4.2 (fun b hb => by simp [blk] at hb; omega) q4b.size)
      have o4c:=s4.1
      have y4 : _ = some (Value.int .i64 0):=y4
      have d0:=o4c.cell rfl (j:=0) (by omega)
      have d0 : _ = some (Value.string (etOf xs (nms 0))):=d0
      have g0:=o4c.frozen rfl 0
      have d1:=o4c.cell rfl (j:=1) (by omega)
      have d1 : _ = some (Value.string (etOf xs (nms 1))):=d1
      have g1:=o4c.frozen rfl 1
      have d2:=o4c.cell rfl (j:=2) (by omega)
      have d2 : _ = some (Value.string (etOf xs (nms 3))):=d2
      have g2:=o4c.frozen rfl 2
      have d3:=o4c.cell rfl (j:=3) (by omega)
      have d3 : _ = some (Value.int .i64 (rdD (etOf xs (nms 2)))):=d3
      have g3:=o4c.frozen rfl 3
      clear s4 o4b q4b
      have e0:=etOf_size xs (nms 0)
      have e1:=etOf_size xs (nms 1)
      have e3:=etOf_size xs (nms 3)
      have HCV:=Lib.hid (fun (z : World) => implItemValid_any (etOf xs (nms 0)) (etOf xs (nms 1)) (etOf xs (nms 3)) (rdD (etOf xs (nms 2))) z (by unfold maxLen; omega) (by unfold maxLen; omega) (by unfold maxLen; omega))
      have hv2 : ivB (etOf xs (nms 0),etOf xs (nms 1),etOf xs (nms 3),rdD (etOf xs (nms 2))) = false:=hv
      rw [hv2] at HCV
      clear e0 e1 e3 hv2
      go_wp2_with fail
      generalize (u4.setCell ⟨wr.heap.size,3,none⟩ (.int .i64 (rdD (etOf xs (nms 2))))) = v4 at *
      refine (HCV.out v4).mono ?_
      rintro e u5 ⟨rfl,c5⟩
      have q5:=q4c.trans (c5.mono q4c.size)
      have kw5:=k1.trans (q5.mono z1)
      have oR5:=Own.belowB oR1 q5 (fun b hb => by simp [blk] at hb; omega)
      have o5:=Own.below o4c c5
      clear d0 g0
      clear d1 g1
      clear d2 g2
      clear d3 g3
      have d0:=o5.cell rfl (j:=0) (by omega)
      have d0 : _ = some (Value.string (etOf xs (nms 0))):=d0
      have g0:=o5.frozen rfl 0
      have d1:=o5.cell rfl (j:=1) (by omega)
      have d1 : _ = some (Value.string (etOf xs (nms 1))):=d1
      have g1:=o5.frozen rfl 1
      have d2:=o5.cell rfl (j:=2) (by omega)
      have d2 : _ = some (Value.string (etOf xs (nms 3))):=d2
      have g2:=o5.frozen rfl 2
      have d3:=o5.cell rfl (j:=3) (by omega)
      have d3 : _ = some (Value.int .i64 (rdD (etOf xs (nms 2)))):=d3
      have g3:=o5.frozen rfl 3
      clear o5 o4c q4c q5
      have r0:=oR5.cell (b:=w.heap.size) rfl (j:=0) (by simp)
      have r1:=oR5.cell (b:=w.heap.size) rfl (j:=1) (by simp)
      have r2:=oR5.cell (b:=w.heap.size) rfl (j:=2) (by simp)
      have r3:=oR5.cell (b:=w.heap.size) rfl (j:=3) (by simp)
      have rf0:=oR5.frozen (b:=w.heap.size) rfl 0
      have rf1:=oR5.frozen (b:=w.heap.size) rfl 1
      have rf2:=oR5.frozen (b:=w.heap.size) rfl 2
      have rf3:=oR5.frozen (b:=w.heap.size) rfl 3
      have r0 : _ = some (Value.string { data:=#[] }):=r0
      have r1 : _ = some (Value.string { data:=#[] }):=r1
      have r2 : _ = some (Value.string { data:=#[] }):=r2
      have r3 : _ = some (Value.int .i64 0):=r3
      go_wp2_with fail
      exact bodyPost_ret (v:=.tuple #[.agg #[.string { data:=#[] },.string { data:=#[] },.string { data:=#[] },.int .i64 0],.bool false]) (by simp [results,Tryz.results100,go_sem,r0,r1,r2,r3]) rfl ⟨by rw [HQ.out.1,HQ.out.2]; first | done | rfl,(by first | exact kw5 | exact ((((kw5.setCell (p:=⟨w.heap.size,0,none⟩) (Nat.le_refl _) _).setCell (p:=⟨w.heap.size,1,none⟩) (Nat.le_refl _) _).setCell (p:=⟨w.heap.size,2,none⟩) (Nat.le_refl _) _).setCell (p:=⟨w.heap.size,3,none⟩) (Nat.le_refl _) _))⟩
     ·have HQ:=Lib.hid (HRS.out hrk hv)
      go_wp2_with fail
      generalize (wr.alloc (.cells #[.string { data:=#[] },.string { data:=#[] },.string { data:=#[] },.int .i64 0] 69)) = v0 at *
      refine (implElementText_any R cR w1.heap.size xs (nms 0) v0 (hX.below q8) q8.size (by omega) HEV.out).mono ?_
      rintro e u0 ⟨rfl,c0⟩
      have o0b:=Own.below o8 c0
      have q0b:=q8.trans (c0.mono q8.size)
      have y0:=o0b.cell rfl (j:=0) (by omega)
      have f0:=o0b.frozen rfl 0
      have s0:=o0b.set rfl (j:=0) (.string (etOf xs (nms 0)))
      have q0c:=q0b.trans (grown_below s0.2 (fun b hb => by simp [blk] at hb; omega) q0b.size)
      have o0c:=s0.1
      have y0 : _ = some (Value.string { data:=#[] }):=y0
      clear s0 o8 q8
      go_wp2_with fail
      generalize (u0.setCell ⟨wr.heap.size,0,none⟩ (.string (etOf xs (nms 0)))) = v1 at *
      refine (implElementText_any R cR w1.heap.size xs (nms 1) v1 (hX.below q0c) q0c.size (by omega) HEV.out).mono ?_
      rintro e u1 ⟨rfl,c1⟩
      have o1b:=Own.below o0c c1
      have q1b:=q0c.trans (c1.mono q0c.size)
      have y1:=o1b.cell rfl (j:=1) (by omega)
      have f1:=o1b.frozen rfl 1
      have s1:=o1b.set rfl (j:=1) (.string (etOf xs (nms 1)))
      have q1c:=q1b.trans (grown_below s1.2 (fun b hb => by simp [blk] at hb; omega) q1b.size)
      have o1c:=s1.1
      have y1 : _ = some (Value.string { data:=#[] }):=y1
      clear s1 
      go_wp2_with fail
      generalize (u1.setCell ⟨wr.heap.size,1,none⟩ (.string (etOf xs (nms 1)))) = v2 at *
      refine (implElementText_any R cR w1.heap.size xs (nms 3) v2 (hX.below q1c) q1c.size (by omega) HEV.out).mono ?_
      rintro e u2 ⟨rfl,c2⟩
      have o2b:=Own.below o1c c2
      have q2b:=q1c.trans (c2.mono q1c.size)
      have y2:=o2b.cell rfl (j:=2) (by omega)
      have f2:=o2b.frozen rfl 2
      have s2:=o2b.set rfl (j:=2) (.string (etOf xs (nms 3)))
      have q2c:=q2b.trans (grown_below s2.2 (fun b hb => by simp [blk] at hb; omega) q2b.size)
      have o2c:=s2.1
      have y2 : _ = some (Value.string { data:=#[] }):=y2
      clear s2 
      go_wp2_with fail
      generalize (u2.setCell ⟨wr.heap.size,2,none⟩ (.string (etOf xs (nms 3)))) = v3 at *
      refine (implElementText_any R cR w1.heap.size xs (nms 2) v3 (hX.below q2c) q2c.size (by omega) HEV.out).mono ?_
      rintro e u3 ⟨rfl,c3⟩
      have o3b:=Own.below o2c c3
      have q3b:=q2c.trans (c3.mono q2c.size)
      clear o2c q2c
      go_wp2_with fail
      refine (implReadDate_any (etOf xs (nms 2)) u3 (by have:=etOf_size xs (nms 2); unfold maxLen; omega)).mono ?_
      rintro e u4 ⟨rfl,c4⟩
      have o4b:=Own.below o3b c4
      have q4b:=q3b.trans (c4.mono q3b.size)
      clear o3b q3b c3 c4
      have y4:=o4b.cell rfl (j:=3) (by omega)
      have f4:=o4b.frozen rfl 3
      have s4:=o4b.set rfl (j:=3) (.int .i64 (rdD (etOf xs (nms 2))))
      have q4c:=q4b.trans (grown_below s4.2 (fun b hb => by simp [blk] at hb; omega) q4b.size)
      have o4c:=s4.1
      have y4 : _ = some (Value.int .i64 0):=y4
      have d0:=o4c.cell rfl (j:=0) (by omega)
      have d0 : _ = some (Value.string (etOf xs (nms 0))):=d0
      have g0:=o4c.frozen rfl 0
      have d1:=o4c.cell rfl (j:=1) (by omega)
      have d1 : _ = some (Value.string (etOf xs (nms 1))):=d1
      have g1:=o4c.frozen rfl 1
      have d2:=o4c.cell rfl (j:=2) (by omega)
      have d2 : _ = some (Value.string (etOf xs (nms 3))):=d2
      have g2:=o4c.frozen rfl 2
      have d3:=o4c.cell rfl (j:=3) (by omega)
      have d3 : _ = some (Value.int .i64 (rdD (etOf xs (nms 2)))):=d3
      have g3:=o4c.frozen rfl 3
      clear s4 o4b q4b
      have e0:=etOf_size xs (nms 0)
      have e1:=etOf_size xs (nms 1)
      have e3:=etOf_size xs (nms 3)
      have HCV:=Lib.hid (fun (z : World) => implItemValid_any (etOf xs (nms 0)) (etOf xs (nms 1)) (etOf xs (nms 3)) (rdD (etOf xs (nms 2))) z (by unfold maxLen; omega) (by unfold maxLen; omega) (by unfold maxLen; omega))
      have hv2 : ivB (etOf xs (nms 0),etOf xs (nms 1),etOf xs (nms 3),rdD (etOf xs (nms 2))) = true:=hv
      rw [hv2] at HCV
      clear e0 e1 e3 hv2
      go_wp2_with fail
      generalize (u4.setCell ⟨wr.heap.size,3,none⟩ (.int .i64 (rdD (etOf xs (nms 2))))) = v4 at *
      refine (HCV.out v4).mono ?_
      rintro e u5 ⟨rfl,c5⟩
      have q5:=q4c.trans (c5.mono q4c.size)
      have kw5:=k1.trans (q5.mono z1)
      have oR5:=Own.belowB oR1 q5 (fun b hb => by simp [blk] at hb; omega)
      have o5:=Own.below o4c c5
      clear d0 g0
      clear d1 g1
      clear d2 g2
      clear d3 g3
      have d0:=o5.cell rfl (j:=0) (by omega)
      have d0 : _ = some (Value.string (etOf xs (nms 0))):=d0
      have g0:=o5.frozen rfl 0
      have d1:=o5.cell rfl (j:=1) (by omega)
      have d1 : _ = some (Value.string (etOf xs (nms 1))):=d1
      have g1:=o5.frozen rfl 1
      have d2:=o5.cell rfl (j:=2) (by omega)
      have d2 : _ = some (Value.string (etOf xs (nms 3))):=d2
      have g2:=o5.frozen rfl 2
      have d3:=o5.cell rfl (j:=3) (by omega)
      have d3 : _ = some (Value.int .i64 (rdD (etOf xs (nms 2)))):=d3
      have g3:=o5.frozen rfl 3
      clear o5 o4c q4c q5
      have r0:=oR5.cell (b:=w.heap.size) rfl (j:=0) (by simp)
      have r1:=oR5.cell (b:=w.heap.size) rfl (j:=1) (by simp)
      have r2:=oR5.cell (b:=w.heap.size) rfl (j:=2) (by simp)
      have r3:=oR5.cell (b:=w.heap.size) rfl (j:=3) (by simp)
      have rf0:=oR5.frozen (b:=w.heap.size) rfl 0
      have rf1:=oR5.frozen (b:=w.heap.size) rfl 1
      have rf2:=oR5.frozen (b:=w.heap.size) rfl 2
      have rf3:=oR5.frozen (b:=w.heap.size) rfl 3
      have r0 : _ = some (Value.string { data:=#[] }):=r0
      have r1 : _ = some (Value.string { data:=#[] }):=r1
      have r2 : _ = some (Value.string { data:=#[] }):=r2
      have r3 : _ = some (Value.int .i64 0):=r3
      go_wp2_with fail
      exact bodyPost_ret (v:=.tuple #[.agg #[.string (etOf xs (nms 0)),.string (etOf xs (nms 1)),.string (etOf xs (nms 3)),.int .i64 (rdD (etOf xs (nms 2)))],.bool true]) (by simp [results,Tryz.results100,go_sem,r0,r1,r2,r3]) rfl ⟨by rw [HQ.out.1,HQ.out.2]; first | done | rfl,(by first | exact kw5 | exact ((((kw5.setCell (p:=⟨w.heap.size,0,none⟩) (Nat.le_refl _) _).setCell (p:=⟨w.heap.size,1,none⟩) (Nat.le_refl _) _).setCell (p:=⟨w.heap.size,2,none⟩) (Nat.le_refl _) _).setCell (p:=⟨w.heap.size,3,none⟩) (Nat.le_refl _) _))⟩
  ·have HQ:=Lib.hid (ri_no (s:=s) (.inr (.inl (fun h => hb h.2))))
   have htn : 1 < tnOf (elOf s) (nms 3):=by omega
   clear hb
   go_enter Tryz.func100,Tryz.ntmps100
   go_wp2_with fail
   generalize (w.alloc (.cells #[.string { data:=#[] },.string { data:=#[] },.string { data:=#[] },.int .i64 0] 69)) = wA at *
   have hcall:=implReadElements_any s wA hs HT.out
   rw [ho] at hcall
   have HC:=Lib.hid hcall
   clear hcall
   generalize hxs : elOf s = xs at *
   clear hxs
   refine HC.out.mono ?_
   rintro e w1 ⟨R,cR,rfl,oX,b1⟩
   have oR1:=Own.below oR b1
   have k1:=hbA.trans (b1.mono hbA.size)
   have z1:=k1.size
   have zz1 : w.heap.size < w1.heap.size:=Nat.lt_of_lt_of_le hzA b1.size
   have hX:=OwnE.rd oX
   clear HC
   have gt1 : decide ((1 : Int) < ((tnOf xs (nms 3) : Nat) : Int)) = true:=decide_eq_true (by omega)
   go_wp2_with fail
   refine (timesNamed_any R cR w1.heap.size xs (nms 3) w1 hX (Nat.le_refl _) (by omega)).mono ?_
   rintro e w2 ⟨rfl,b2⟩
   have k2:=k1.trans (b2.mono z1)
   have oR2:=Own.below oR1 b2
   have r0:=oR2.cell (b:=w.heap.size) rfl (j:=0) (by simp)
   have r1:=oR2.cell (b:=w.heap.size) rfl (j:=1) (by simp)
   have r2:=oR2.cell (b:=w.heap.size) rfl (j:=2) (by simp)
   have r3:=oR2.cell (b:=w.heap.size) rfl (j:=3) (by simp)
   have rf0:=oR2.frozen (b:=w.heap.size) rfl 0
   have rf1:=oR2.frozen (b:=w.heap.size) rfl 1
   have rf2:=oR2.frozen (b:=w.heap.size) rfl 2
   have rf3:=oR2.frozen (b:=w.heap.size) rfl 3
   have r0 : _ = some (Value.string { data:=#[] }):=r0
   have r1 : _ = some (Value.string { data:=#[] }):=r1
   have r2 : _ = some (Value.string { data:=#[] }):=r2
   have r3 : _ = some (Value.int .i64 0):=r3
   go_wp2_with fail
   exact bodyPost_ret (v:=.tuple #[.agg #[.string { data:=#[] },.string { data:=#[] },.string { data:=#[] },.int .i64 0],.bool false]) (by simp [results,Tryz.results100,go_sem,r0,r1,r2,r3]) rfl ⟨by rw [HQ.out.1,HQ.out.2]; first | done | rfl,(by first | exact k2 | exact ((((k2.setCell (p:=⟨w.heap.size,0,none⟩) (Nat.le_refl _) _).setCell (p:=⟨w.heap.size,1,none⟩) (Nat.le_refl _) _).setCell (p:=⟨w.heap.size,2,none⟩) (Nat.le_refl _) _).setCell (p:=⟨w.heap.size,3,none⟩) (Nat.le_refl _) _))⟩
end Go.Proofs.YtfnmlffpnmmcdaaGreatDoor
namespace Go.Proofs.YtfnmlffpnmmcdaaGreatDoor
set_option maxRecDepth 100000
open Go.RowKit
set_option maxHeartbeats 400000 in
theorem withoutAtItem_any (A : Option Addr) (cap B : Nat) (xs : List ElItem) (k : Nat) (w : World) (h : RdE 4 encItem w B A xs) (hB : B ≤ w.heap.size) (hS : Shp A xs.length cap) (hk : k < xs.length) (hl : xs.length ≤ 1000000) :
    Calls Tryz.prog 104 #[.slice A xs.length cap,.int .i64 k] w fun e w' => ∃ T cap',e = .returned (.slice T (xs.take k ++ xs.drop (k + 1)).length cap') ∧ OwnE 4 encItem 69 w' w.heap.size T cap' (xs.take k ++ xs.drop (k + 1)) ∧ Below w.heap.size w w':=by
 have hmk:=mk_run0 (P:=Tryz.prog) 30 69 _ _ _ Tryz.underlying30 info_Item (xs.length : Int) (by omega) (by omega) (by omega)
 rw [Int.toNat_natCast] at hmk
 have hlk : (xs.take k).length = k:=by simp; omega
 have hld : (xs.drop (k + 1)).length = xs.length - (k + 1):=List.length_drop
 have hcp : xs.length ≤ cap:=by rcases hS with ⟨_,h1,h2⟩ | ⟨_,_,_,h1,_⟩ <;> omega
 have sl1 : ∀ W,(Instr.slice 30 (.slice A xs.length cap) none (some (.int .i64 (k : Int))) none).run Tryz.prog W = .ok (.slice (tlA A cap 0 4) k cap) W:=fun W => run_upto Tryz.underlying30 info_Item A xs.length cap k (by omega) W
 have sl2 : ∀ W,(Instr.slice 30 (.slice A xs.length cap) (some (.int .i64 ((k : Int) + 1))) none none).run Tryz.prog W = .ok (.slice (tlA A cap (k + 1) 4) (xs.length - (k + 1)) (cap - (k + 1))) W:=fun W => run_from (k:=k + 1) Tryz.underlying30 info_Item A xs.length cap (by omega) W
 have hb0 : Below w.heap.size w (w.alloc (.cells (madeCells #[.string ByteArray.empty,.string ByteArray.empty,.string ByteArray.empty,.int .i64 0] (xs.length * 4)) 69)):=(Below.refl _ _).alloc (Nat.le_refl _) _
 have hm : Own (w.alloc (.cells (madeCells #[.string ByteArray.empty,.string ByteArray.empty,.string ByteArray.empty,.int .i64 0] (xs.length * 4)) 69)) w.heap.size 69 4 (some ⟨w.heap.size,0,none⟩) 0 xs.length (cE 4 encItem ([] : List ElItem)):=Own.cap0 w 69 4 xs.length w.heap.size (madeCells #[.string ByteArray.empty,.string ByteArray.empty,.string ByteArray.empty,.int .i64 0] (xs.length * 4)) (cE 4 encItem ([] : List ElItem)) (Nat.le_refl _) (by simp only [maxLen]; omega) (size_madeCells _ _)
 have hr1:=(RdE.head h cap k).below (hb0.mono hB)
 have hr2:=(RdE.tail h hS (k + 1) (by omega)).below (hb0.mono hB)
 have HL:=Lib.hid hlk; have HD:=Lib.hid hld
 clear hlk hld h
 go_enter Tryz.func104,Tryz.ntmps104
 go_wp2_with (first
  | (at_builtin; refine wpList_app rfl (.tmp 9) (.tmp 12) _ rfl w.heap.size 69 _ 4 56 Tryz.underlying30 info_Item rfl (by omega) (some ⟨w.heap.size,0,none⟩) (tlA A cap 0 4) 0 xs.length k cap B (cE 4 encItem ([] : List ElItem)) (cE 4 encItem (xs.take k)) rfl rfl hm (RdE.len hr1 HL.out) (fun _ _ => encItem_one _ _) (by simp only [maxLen]; omega) (by omega) hb0.size ?_; intro T1 cap1 w1 hown1 hg1; have hb1:=hb0.trans (grown_below hg1 (fun b hb => (hm.lt hb).1) hb0.size);have hown1':=OwnE.first hown1 HL.out; have hr3:=hr2.below ((grown_below hg1 (fun b hb => (hm.lt hb).1) hb0.size).mono hB);have z1:=hb1.size; clear hown1 hg1 hr1 hr2)
  | (at_builtin; refine wpList_app rfl (.tmp 14) (.tmp 18) _ rfl w.heap.size 69 _ 4 56 Tryz.underlying30 info_Item rfl (by omega) T1 (tlA A cap (k + 1) 4) k cap1 (xs.length - (k + 1)) (cap - (k + 1)) B (cE 4 encItem (xs.take k)) (cE 4 encItem (xs.drop (k + 1))) rfl (by simp [go_sem]) (OwnE.own hown1' HL.out) (RdE.len hr3 HD.out) (fun _ _ => encItem_one _ _) (by simp only [maxLen]; omega) (by omega) hb1.size ?_; intro T3 cap3 w3 hown3 hg3))
 go_ret
 have hown3':=OwnE.join (by omega) HL.out HD.out hown3
 exact ⟨T3,cap3,by rw [List.length_append,HL.out,HD.out]; rfl,hown3',hb1.trans (grown_below hg3 (fun b hb => (Own.lt hown1' hb).1) hb1.size)⟩
end Go.Proofs.YtfnmlffpnmmcdaaGreatDoor
namespace Go.Proofs.YtfnmlffpnmmcdaaGreatDoor
set_option maxRecDepth 100000
open Go.RowKit
set_option maxHeartbeats 800000 in
theorem implFollow_any (A : Option Addr) (cap B : Nat) (ps : List ElHandle) (p : ElHandle) (w : World) (h : RdE 2 encHandle w B A ps) (hB : B ≤ w.heap.size) (hl : ps.length ≤ 140737488351232) (hS : Shp A ps.length cap) (hsz : ∀ k,k < ps.length → (gt ps k).1.size ≤ maxLen ∧ (gt ps k).2.size ≤ maxLen) (hp : p.1.size ≤ maxLen ∧ p.2.size ≤ maxLen) :
    Calls Tryz.prog 52 #[.slice A ps.length cap,.agg #[.string p.1,.string p.2]] w fun e w' => ∃ T' cap',e = .returned (.tuple #[.slice T' (folOf ps p).length cap',.bool (folOk ps p)]) ∧ OwnE 2 encHandle 29 w' w.heap.size T' cap' (folOf ps p) ∧ Below w.heap.size w w':=by
 have HSZ:=Lib.hid hsz
 have HSI:=Lib.hid (insF_sz hsz hp)
 clear hsz hp
 have hbA : Below w.heap.size w (w.alloc (.cells #[.string p.1,.string p.2] 29)):=(Below.refl _ _).alloc (Nat.le_refl _) _
 have hpA0 : (w.alloc (.cells #[.string p.1,.string p.2] 29)).cell? ⟨w.heap.size,0,none⟩ = some (.string p.1):=by rw [World.cell?_alloc_at _ _ _ _ rfl]; rfl
 have hpA1 : (w.alloc (.cells #[.string p.1,.string p.2] 29)).cell? ⟨w.heap.size,1,none⟩ = some (.string p.2):=by rw [World.cell?_alloc_at _ _ _ _ rfl]; rfl
 have hzA : (w.alloc (.cells #[.string p.1,.string p.2] 29)).heap.size = w.heap.size + 1:=by simp
 by_cases hv : fvB ps = true
 ·have h10:=(Fv.of hv).1
  go_enter Tryz.func52,Tryz.ntmps52
  go_wp2_with fail
  have HZ:=Lib.hid hzA; clear hzA
  generalize (w.alloc (.cells #[.string p.1,.string p.2] 29)) = wA at *
  refine (implFollowersValid_any _ _ B ps wA (h.below (hbA.mono hB)) (Nat.le_trans hB hbA.size) hl HSZ.out).mono ?_
  rintro e w1 ⟨rfl,hb1⟩
  have hb1' : Below (w.heap.size + 1) wA w1:=hb1.mono (by rw [HZ.out]; exact Nat.le_refl _)
  have hsA : w.heap.size + 1 ≤ wA.heap.size:=by rw [HZ.out]; exact Nat.le_refl _
  go_wp2_with fail
  go_loopw [6] (fun i wr => ∃ k : Nat,k ≤ ps.length ∧ Hid (∀ j,j < k → hbB (gt ps j) p = true) ∧ i = .int .i64 k ∧ Below (w.heap.size + 1) wA wr) (fun i _ => ps.length - (intOf i).toNat)
  case atStart => exact ⟨0,Nat.zero_le _,Lib.hid (fun j hj => absurd hj (by omega)),rfl,hb1'⟩
  case round =>
   clear hb1 hb1'
   obtain ⟨k,hk,hbe,rfl,hbl⟩:=hrel
   have hsz:=hbl.size
   have q0 : wr.cell? ⟨w.heap.size,0,none⟩ = some (.string p.1):=(hbl.cell (p:=⟨w.heap.size,0,none⟩) (by show w.heap.size < w.heap.size + 1; omega)).trans hpA0
   have q1 : wr.cell? ⟨w.heap.size,1,none⟩ = some (.string p.2):=(hbl.cell (p:=⟨w.heap.size,1,none⟩) (by show w.heap.size < w.heap.size + 1; omega)).trans hpA1
   have hrr : RdE 2 encHandle wr B A ps:=(h.below (hbA.mono hB)).below (hbl.mono (by omega))
   have hbw : Below w.heap.size w wr:=hbA.trans (hbl.mono (by omega))
   by_cases hgo : k < ps.length ∧ hbB (gt ps k) p = true
   ·obtain ⟨hlt,hbf⟩:=hgo
    obtain ⟨b,off,rfl,hb,hc⟩:=hrr.at_ (by omega)
    have c0 : wr.cell? ⟨b,off + k * 2,none⟩ = some (Value.string ((gt ps k).1)):=hc k 0 (by omega) (by omega)
    have c1 : wr.cell? ⟨b,off + k * 2 + 1,none⟩ = some (Value.string ((gt ps k).2)):=hc k 1 (by omega) (by omega)
    have hlt2 : decide ((k : Int) < (ps.length : Int)) = true:=by simp [hlt]
    have hlt3 : decide (k < ps.length) = true:=by simp [hlt]
    have hbf' : hbB ((gt ps k).1,(gt ps k).2) (p.1,p.2) = true:=hbf
    have HN:=Lib.hid (fun j (hj : j < k + 1) => by
     rcases Nat.lt_succ_iff_lt_or_eq.1 hj with h1 | rfl
     ·exact hbe.out j h1
     ·exact hbf : ∀ j,j < k + 1 → hbB (gt ps j) p = true)
    clear hc hbf hrr
    go_wp2_with fail
    refine wp_region_still_tail 10 (by kernel_rfl) (by kernel_rfl) ?_
    simp only [List.take_succ_cons,List.take_zero,List.drop_succ_cons,List.drop_zero]
    repeat still_step
    refine wpStill_nil ?_
    go_wp2_with (go_at_call 105; refine (implHandleBefore_any _ _ _ _ _).mono ?_; rintro e w2 ⟨rfl,hb2⟩)
    go_roundw
    case rel => exact ⟨k + 1,by omega,HN,by go_num,hbl.trans (((below_drew1 wr).trans hb2).mono (by show w.heap.size + 1 ≤ wr.heap.size; omega))⟩
    case measure => simp [intOf]; omega
   ·have hpos : posF ps p = k:=posF_eq ps p k hk hbe.out (fun hlt => by
       cases hq : hbB (gt ps k) p
       ·rfl
       ·exact absurd ⟨hlt,hq⟩ hgo)
    have HP:=Lib.hid hpos
    have hins : Hid (insF ps p = ps.take k ++ [p] ++ ps.drop k):=Lib.hid (by rw [insF,hpos])
    clear hpos
    have hinl : (insF ps p).length ≤ 11:=by rw [insF_len]; omega
    by_cases hlt : k < ps.length
    ·have hbf : hbB (gt ps k) p = false:=by
        cases hq : hbB (gt ps k) p
        ·rfl
        ·exact absurd ⟨hlt,hq⟩ hgo
     obtain ⟨b,off,hAe,hb,hc⟩:=hrr.at_ (by omega)
     have c0 : wr.cell? ⟨b,off + k * 2,none⟩ = some (Value.string ((gt ps k).1)):=hc k 0 (by omega) (by omega)
     have c1 : wr.cell? ⟨b,off + k * 2 + 1,none⟩ = some (Value.string ((gt ps k).2)):=hc k 1 (by omega) (by omega)
     have hlt2 : decide ((k : Int) < (ps.length : Int)) = true:=by simp [hlt]
     have hlt3 : decide (k < ps.length) = true:=by simp [hlt]
     have hbf' : hbB ((gt ps k).1,(gt ps k).2) (p.1,p.2) = false:=hbf
     subst hAe
     clear hc hbf hgo
     go_wp2_with fail
     refine wp_region_still_tail 10 (by kernel_rfl) (by kernel_rfl) ?_
     simp only [List.take_succ_cons,List.take_zero,List.drop_succ_cons,List.drop_zero]
     repeat still_step
     refine wpStill_nil ?_
     go_wp2_with (go_at_call 105; refine (implHandleBefore_any _ _ _ _ _).mono ?_; rintro e w2 ⟨rfl,hb2⟩; have hb2' : Below (w.heap.size + 1) wr w2:=((below_drew1 wr).trans hb2).mono (by show w.heap.size + 1 ≤ wr.heap.size; omega);have s0:=(hb2'.cell (p:=⟨w.heap.size,0,none⟩) (by show w.heap.size < w.heap.size + 1; omega)).trans q0; have s1:=(hb2'.cell (p:=⟨w.heap.size,1,none⟩) (by show w.heap.size < w.heap.size + 1; omega)).trans q1)
     have hr2:=hrr.below (hb2'.mono (by omega))
     have hbw2:=hbw.trans (hb2'.mono (by omega))
     have hsz2 : w.heap.size + 1 ≤ w2.heap.size:=Nat.le_trans (by omega) hb2'.size
     clear c0 c1 q0 q1 hlt2 hlt3 hbf' hb2 hb2' hrr hbw hbl
     go_wp2_with fail
     have hcall:=withAtHandle_any _ _ B ps k p w2 hr2 (by omega) hS hk (by omega)
     rw [← hins.out] at hcall
     refine hcall.mono ?_
     clear hcall
     rintro e w5 ⟨T,cap5,rfl,ho5,hb5⟩
     have hr5:=hr2.below (hb5.mono (by omega))
     have hs5:=hb5.size
     have c5:=hbw2.trans (hb5.mono (by omega))
     by_cases hv2 : fvB (insF ps p) = true
     ·have HE:=Lib.hid (folOf_yes hv hv2)
      go_wp2_with (go_at_call 66; refine (implFollowersValid_any _ _ _ (insF ps p) w5 ho5.rd (Nat.le_refl _) (by omega) HSI.out).mono ?_; rintro e w6 ⟨rfl,hb6⟩)
      go_ret2
      rw [HE.out.1,HE.out.2]
      exact ⟨T,cap5,rfl,Own.more (Own.below ho5 hb6) (by omega),c5.trans (hb6.mono (by omega))⟩
     ·have hv2' : fvB (insF ps p) = false:=by simpa using hv2
      have HE:=Lib.hid (folOf_no hv hv2')
      clear hv2
      go_wp2_with (first
       | (go_at_call 66; refine (implFollowersValid_any _ _ _ (insF ps p) w5 ho5.rd (Nat.le_refl _) (by omega) HSI.out).mono ?_; rintro e w6 ⟨rfl,hb6⟩; have hs6:=hb6.size)
       | (go_at_call 96; refine (copyOfHandle_any _ _ B ps w6 (hr5.below (hb6.mono (by omega))) (by omega)).mono ?_; rintro e w7 ⟨T7,cap7,rfl,ho7,hb7⟩))
      go_ret2
      rw [HE.out.1,HE.out.2]
      exact ⟨T7,cap7,rfl,Own.more ho7 (by omega),(c5.trans (hb6.mono (by omega))).trans (hb7.mono (by omega))⟩
    ·have hlt2 : decide ((k : Int) < (ps.length : Int)) = false:=by simp; omega
     have hlt3 : decide (k < ps.length) = false:=by simp; omega
     clear hgo
     go_wp2_with fail
     go_quiet (fail)
     have s0 : (wr.drewN nq).cell? ⟨w.heap.size,0,none⟩ = some (.string p.1):=q0
     have s1 : (wr.drewN nq).cell? ⟨w.heap.size,1,none⟩ = some (.string p.2):=q1
     have hr2 : RdE 2 encHandle (wr.drewN nq) B A ps:=hrr
     have hbw2:=below_drewN hbw nq
     have hsz2 : w.heap.size + 1 ≤ (wr.drewN nq).heap.size:=by show w.heap.size + 1 ≤ wr.heap.size; omega
     clear q0 q1 hlt2 hlt3 hrr hbw hbl
     generalize wr.drewN nq = w2 at *
     go_wp2_with fail
     have hcall:=withAtHandle_any _ _ B ps k p w2 hr2 (by omega) hS hk (by omega)
     rw [← hins.out] at hcall
     refine hcall.mono ?_
     clear hcall
     rintro e w5 ⟨T,cap5,rfl,ho5,hb5⟩
     have hr5:=hr2.below (hb5.mono (by omega))
     have hs5:=hb5.size
     have c5:=hbw2.trans (hb5.mono (by omega))
     by_cases hv2 : fvB (insF ps p) = true
     ·have HE:=Lib.hid (folOf_yes hv hv2)
      go_wp2_with (go_at_call 66; refine (implFollowersValid_any _ _ _ (insF ps p) w5 ho5.rd (Nat.le_refl _) (by omega) HSI.out).mono ?_; rintro e w6 ⟨rfl,hb6⟩)
      go_ret2
      rw [HE.out.1,HE.out.2]
      exact ⟨T,cap5,rfl,Own.more (Own.below ho5 hb6) (by omega),c5.trans (hb6.mono (by omega))⟩
     ·have hv2' : fvB (insF ps p) = false:=by simpa using hv2
      have HE:=Lib.hid (folOf_no hv hv2')
      clear hv2
      go_wp2_with (first
       | (go_at_call 66; refine (implFollowersValid_any _ _ _ (insF ps p) w5 ho5.rd (Nat.le_refl _) (by omega) HSI.out).mono ?_; rintro e w6 ⟨rfl,hb6⟩; have hs6:=hb6.size)
       | (go_at_call 96; refine (copyOfHandle_any _ _ B ps w6 (hr5.below (hb6.mono (by omega))) (by omega)).mono ?_; rintro e w7 ⟨T7,cap7,rfl,ho7,hb7⟩))
      go_ret2
      rw [HE.out.1,HE.out.2]
      exact ⟨T7,cap7,rfl,Own.more ho7 (by omega),(c5.trans (hb6.mono (by omega))).trans (hb7.mono (by omega))⟩
 ·have hv' : fvB ps = false:=by simpa using hv
  obtain ⟨e1,e2⟩:=folOf_bad (p:=p) hv'
  rw [e1,e2]
  clear hv e1 e2
  go_enter Tryz.func52,Tryz.ntmps52
  go_wp2_with (go_at_call 66; refine (implFollowersValid_any _ _ B ps _ (h.below (hbA.mono hB)) (Nat.le_trans hB hbA.size) hl HSZ.out).mono ?_; rintro e w1 ⟨rfl,hb1⟩)
  go_ret2
  exact ⟨none,0,rfl,Own.nil _ _ _ _ _,hbA.trans (hb1.mono hbA.size)⟩
end Go.Proofs.YtfnmlffpnmmcdaaGreatDoor
namespace Go.Proofs.YtfnmlffpnmmcdaaGreatDoor
set_option maxRecDepth 100000
open Go.RowKit
set_option maxHeartbeats 400000 in
theorem withoutAtHandle_any (A : Option Addr) (cap B : Nat) (xs : List ElHandle) (k : Nat) (w : World) (h : RdE 2 encHandle w B A xs) (hB : B ≤ w.heap.size) (hS : Shp A xs.length cap) (hk : k < xs.length) (hl : xs.length ≤ 1000000) :
    Calls Tryz.prog 108 #[.slice A xs.length cap,.int .i64 k] w fun e w' => ∃ T cap',e = .returned (.slice T (xs.take k ++ xs.drop (k + 1)).length cap') ∧ OwnE 2 encHandle 29 w' w.heap.size T cap' (xs.take k ++ xs.drop (k + 1)) ∧ Below w.heap.size w w':=by
 have hmk:=mk_run0 (P:=Tryz.prog) 31 29 _ _ _ Tryz.underlying31 info_Handle (xs.length : Int) (by omega) (by omega) (by omega)
 rw [Int.toNat_natCast] at hmk
 have hlk : (xs.take k).length = k:=by simp; omega
 have hld : (xs.drop (k + 1)).length = xs.length - (k + 1):=List.length_drop
 have hcp : xs.length ≤ cap:=by rcases hS with ⟨_,h1,h2⟩ | ⟨_,_,_,h1,_⟩ <;> omega
 have sl1 : ∀ W,(Instr.slice 31 (.slice A xs.length cap) none (some (.int .i64 (k : Int))) none).run Tryz.prog W = .ok (.slice (tlA A cap 0 2) k cap) W:=fun W => run_upto Tryz.underlying31 info_Handle A xs.length cap k (by omega) W
 have sl2 : ∀ W,(Instr.slice 31 (.slice A xs.length cap) (some (.int .i64 ((k : Int) + 1))) none none).run Tryz.prog W = .ok (.slice (tlA A cap (k + 1) 2) (xs.length - (k + 1)) (cap - (k + 1))) W:=fun W => run_from (k:=k + 1) Tryz.underlying31 info_Handle A xs.length cap (by omega) W
 have hb0 : Below w.heap.size w (w.alloc (.cells (madeCells #[.string ByteArray.empty,.string ByteArray.empty] (xs.length * 2)) 29)):=(Below.refl _ _).alloc (Nat.le_refl _) _
 have hm : Own (w.alloc (.cells (madeCells #[.string ByteArray.empty,.string ByteArray.empty] (xs.length * 2)) 29)) w.heap.size 29 2 (some ⟨w.heap.size,0,none⟩) 0 xs.length (cE 2 encHandle ([] : List ElHandle)):=Own.cap0 w 29 2 xs.length w.heap.size (madeCells #[.string ByteArray.empty,.string ByteArray.empty] (xs.length * 2)) (cE 2 encHandle ([] : List ElHandle)) (Nat.le_refl _) (by simp only [maxLen]; omega) (size_madeCells _ _)
 have hr1:=(RdE.head h cap k).below (hb0.mono hB)
 have hr2:=(RdE.tail h hS (k + 1) (by omega)).below (hb0.mono hB)
 have HL:=Lib.hid hlk; have HD:=Lib.hid hld
 clear hlk hld h
 go_enter Tryz.func108,Tryz.ntmps108
 go_wp2_with (first
  | (at_builtin; refine wpList_app rfl (.tmp 9) (.tmp 12) _ rfl w.heap.size 29 _ 2 32 Tryz.underlying31 info_Handle rfl (by omega) (some ⟨w.heap.size,0,none⟩) (tlA A cap 0 2) 0 xs.length k cap B (cE 2 encHandle ([] : List ElHandle)) (cE 2 encHandle (xs.take k)) rfl rfl hm (RdE.len hr1 HL.out) (fun _ _ => encHandle_one _ _) (by simp only [maxLen]; omega) (by omega) hb0.size ?_; intro T1 cap1 w1 hown1 hg1; have hb1:=hb0.trans (grown_below hg1 (fun b hb => (hm.lt hb).1) hb0.size);have hown1':=OwnE.first hown1 HL.out; have hr3:=hr2.below ((grown_below hg1 (fun b hb => (hm.lt hb).1) hb0.size).mono hB);have z1:=hb1.size; clear hown1 hg1 hr1 hr2)
  | (at_builtin; refine wpList_app rfl (.tmp 14) (.tmp 18) _ rfl w.heap.size 29 _ 2 32 Tryz.underlying31 info_Handle rfl (by omega) T1 (tlA A cap (k + 1) 2) k cap1 (xs.length - (k + 1)) (cap - (k + 1)) B (cE 2 encHandle (xs.take k)) (cE 2 encHandle (xs.drop (k + 1))) rfl (by simp [go_sem]) (OwnE.own hown1' HL.out) (RdE.len hr3 HD.out) (fun _ _ => encHandle_one _ _) (by simp only [maxLen]; omega) (by omega) hb1.size ?_; intro T3 cap3 w3 hown3 hg3))
 go_ret
 have hown3':=OwnE.join (by omega) HL.out HD.out hown3
 exact ⟨T3,cap3,by rw [List.length_append,HL.out,HD.out]; rfl,hown3',hb1.trans (grown_below hg3 (fun b hb => (Own.lt hown1' hb).1) hb1.size)⟩
end Go.Proofs.YtfnmlffpnmmcdaaGreatDoor
namespace Go.Proofs.YtfnmlffpnmmcdaaGreatDoor
set_option maxRecDepth 100000
open Go.RowKit
set_option maxHeartbeats 800000 in
theorem indexHandle_any (A : Option Addr) (cap B : Nat) (fs : List ElHandle) (h : ElHandle) (w : World) (hr : RdE 2 encHandle w B A fs) (hB : B ≤ w.heap.size) (hl : fs.length ≤ 140737488351232) :
    Calls Tryz.prog 107 #[.slice A fs.length cap,.agg #[.string h.1,.string h.2]] w fun e w' => e = .returned (.int .i64 (ix (isH h) fs)) ∧ Below w.heap.size w w':=by
 have e0 : (w.alloc (.cells #[.string h.1,.string h.2] 29)).cell? ⟨w.heap.size,0,none⟩ = some (.string h.1):=by rw [World.cell?_alloc_at _ _ _ _ rfl]; rfl
 have e1 : (w.alloc (.cells #[.string h.1,.string h.2] 29)).cell? ⟨w.heap.size,1,none⟩ = some (.string h.2):=by rw [World.cell?_alloc_at _ _ _ _ rfl]; rfl
 have kA : Below w.heap.size w (w.alloc (.cells #[.string h.1,.string h.2] 29)):=(Below.refl _ _).alloc (Nat.le_refl _) _
 have zA : w.heap.size < (w.alloc (.cells #[.string h.1,.string h.2] 29)).heap.size:=by simp
 go_enter Tryz.func107,Tryz.ntmps107
 go_wp2_with fail
 generalize (w.alloc (.cells #[.string h.1,.string h.2] 29)) = wA at *
 go_loopw [5,8] (fun _ i wr => ∃ k : Nat,k ≤ fs.length ∧ Hid (∀ j,j < k → isH h (gt fs j) = false) ∧ i = .int .i64 k ∧ Below wA.heap.size wA wr) (fun _ i _ => fs.length - (intOf i).toNat)
 case atStart => exact ⟨0,Nat.zero_le _,Lib.hid (fun j hj => absurd hj (by omega)),rfl,Below.refl _ _⟩
 case round =>
  obtain ⟨k,hk,hno,rfl,hbA⟩:=hrel
  have hbl:=kA.trans (hbA.mono kA.size)
  by_cases hlt : k < fs.length
  ·have g0:=(hbA.cell (p:=⟨w.heap.size,0,none⟩) (by exact zA)).trans e0
   have g1:=(hbA.cell (p:=⟨w.heap.size,1,none⟩) (by exact zA)).trans e1
   obtain ⟨b,off,rfl,hb,hc⟩:=(hr.below (hbl.mono hB)).at_ (by omega)
   have c0 : wr.cell? ⟨b,off + k * 2,none⟩ = some (Value.string (gt fs k).1):=hc k 0 (by omega) (by omega)
   have c1 : wr.cell? ⟨b,off + k * 2 + 1,none⟩ = some (Value.string (gt fs k).2):=hc k 1 (by omega) (by omega)
   clear hc e0 e1
   have heql:=fun w' => eql_Handle h.1 h.2 (gt fs k).1 (gt fs k).2 w'
   have hgd:=guard_Handle
   cases hq : isH h (gt fs k)
   ·have hn : eqEl (α:=ElHandle) (h.1,h.2) ((gt fs k).1,(gt fs k).2) = false:=by
       unfold isH eqEl at hq
       exact decide_eq_false (fun e => of_decide_eq_false hq e.symm)
    go_wp2_with fail
    go_quiet (fail)
    go_wp2_with fail
    go_roundw
    case rel => exact ⟨k + 1,by omega,Lib.hid (fun j hj => by
        rcases Nat.lt_succ_iff_lt_or_eq.1 hj with h1 | rfl
        ·exact hno.out j h1
        ·exact hq),by go_num,below_drewN hbA _⟩
    case measure => simp [intOf]; omega
   ·have hn : eqEl (α:=ElHandle) (h.1,h.2) ((gt fs k).1,(gt fs k).2) = true:=by
       unfold isH eqEl at hq
       exact decide_eq_true (of_decide_eq_true hq).symm
    have HQ:=Lib.hid (ix_at hlt hno.out hq)
    clear hq
    go_wp2_with fail
    go_quiet (fail)
    go_wp2_with fail
    go_ret
    exact ⟨ret_int HQ.out.symm,below_drewN hbl _⟩
  ·obtain rfl : k = fs.length:=by omega
   go_wp2_with fail
   go_ret
   exact ⟨ret_int (ix_none hno.out).symm,hbl⟩
set_option maxHeartbeats 1600000 in
theorem implUnfollow_any (A : Option Addr) (cap B : Nat) (fs : List ElHandle) (h : ElHandle) (w : World) (hr : RdE 2 encHandle w B A fs) (hB : B ≤ w.heap.size) (hS : Shp A fs.length cap) (hv : fvB fs = true) :
    Calls Tryz.prog 53 #[.slice A fs.length cap,.agg #[.string h.1,.string h.2]] w fun e w' => ∃ T' cap',e = .returned (.tuple #[.slice T' (ufOf fs h).length cap',.bool (ufOk fs h)]) ∧ OwnE 2 encHandle 29 w' w.heap.size T' cap' (ufOf fs h) ∧ Below w.heap.size w w':=by
 have h10:=(Fv.of hv).1
 have HV:=Lib.hid hv
 clear hv
 have e0 : (w.alloc (.cells #[.string h.1,.string h.2] 29)).cell? ⟨w.heap.size,0,none⟩ = some (.string h.1):=by rw [World.cell?_alloc_at _ _ _ _ rfl]; rfl
 have e1 : (w.alloc (.cells #[.string h.1,.string h.2] 29)).cell? ⟨w.heap.size,1,none⟩ = some (.string h.2):=by rw [World.cell?_alloc_at _ _ _ _ rfl]; rfl
 have kA : Below w.heap.size w (w.alloc (.cells #[.string h.1,.string h.2] 29)):=(Below.refl _ _).alloc (Nat.le_refl _) _
 have zA : w.heap.size < (w.alloc (.cells #[.string h.1,.string h.2] 29)).heap.size:=by simp
 go_enter Tryz.func53,Tryz.ntmps53
 go_wp2_with fail
 generalize (w.alloc (.cells #[.string h.1,.string h.2] 29)) = wA at *
 refine (implFollowersValid_any A cap B fs wA (hr.below (kA.mono hB)) (Nat.le_trans hB kA.size) (by omega) (fv_sz HV.out)).mono ?_
 rintro e w1 ⟨rfl,b1⟩
 rw [HV.out]
 have k1:=kA.trans (b1.mono kA.size)
 have g0:=(b1.cell (p:=⟨w.heap.size,0,none⟩) (by exact zA)).trans e0
 have g1:=(b1.cell (p:=⟨w.heap.size,1,none⟩) (by exact zA)).trans e1
 clear e0 e1 b1 kA
 go_wp2_with fail
 refine (indexHandle_any A cap B fs h w1 (hr.below (k1.mono hB)) (Nat.le_trans hB k1.size) (by omega)).mono ?_
 rintro e w2 ⟨rfl,b2⟩
 have k2:=k1.trans (b2.mono k1.size)
 have hr2:=hr.below (k2.mono hB)
 clear g0 g1 b2 k1
 rcases ix_cases (p:=isH h) (xs:=fs) with ⟨hx,_⟩ | ⟨k,hk,hx,_⟩
 ·rw [hx]
  have HQ:=Lib.hid (uf_no hx)
  clear hx
  go_wp2_with fail
  refine (copyOfHandle_any A cap B fs w2 hr2 (by omega)).mono ?_
  rintro e w3 ⟨R,c,rfl,o3,b3⟩
  go_wp2_with fail
  go_ret2
  rw [HQ.out.1,HQ.out.2]
  exact ⟨R,c,rfl,Own.more o3 k2.size,k2.trans (b3.mono k2.size)⟩
 ·rw [hx]
  have HQ:=Lib.hid (uf_at HV.out hx)
  have gk : decide ((k : Int) < 0) = false:=decide_eq_false (by omega)
  clear hx
  go_wp2_with fail
  have hwo:=withoutAtHandle_any A cap B fs k w2 hr2 (Nat.le_trans hB k2.size) hS hk (by omega)
  rw [← HQ.out.2.1] at hwo
  refine hwo.mono ?_
  rintro e w3 ⟨R,c,rfl,o3,b3⟩
  go_wp2_with fail
  go_ret2
  rw [HQ.out.2.2]
  exact ⟨R,c,rfl,Own.more o3 k2.size,k2.trans (b3.mono k2.size)⟩
end Go.Proofs.YtfnmlffpnmmcdaaGreatDoor
namespace Go.Proofs.YtfnmlffpnmmcdaaGreatDoor
set_option maxRecDepth 100000
open Go.RowKit
set_option maxHeartbeats 3200000 in
theorem putItem_any (text : ByteArray) (who : ElHandle) (is : List ElItem) (fs : List ElHandle) (nx : Int) (I : Option Addr) (ci : Nat) (F : Option Addr) (cf base : Nat) (w : World) (hI : OwnE 4 encItem 69 w base I ci is) (hF : OwnE 2 encHandle 29 w base F cf fs) (hb : base ≤ w.heap.size) (hv : brB who is fs nx = true) (hT : KwTab w) (hs : text.size ≤ maxLen) (hE : EsTab w) :
    Calls Tryz.prog 49 #[.agg #[Value.string who.1,Value.string who.2,Value.slice I is.length ci,Value.slice F fs.length cf,Value.int .i64 nx],.string text] w (OutBl base (putOf (who,is,fs,nx) text) w):=by
 have zw : (w.alloc (.cells #[Value.string who.1,Value.string who.2,Value.slice I is.length ci,Value.slice F fs.length cf,Value.int .i64 nx] 33)).heap.size = w.heap.size + 1:=by simp
 have hbA : Below w.heap.size w ((w.alloc (.cells #[Value.string who.1,Value.string who.2,Value.slice I is.length ci,Value.slice F fs.length cf,Value.int .i64 nx] 33)).alloc (.cells #[Value.string { data:=#[] },Value.string { data:=#[] },Value.slice none 0 0,Value.slice none 0 0,Value.int .i64 0] 33)):=((Below.refl _ _).alloc (Nat.le_refl _) _).alloc (by simp) _
 have zA : ((w.alloc (.cells #[Value.string who.1,Value.string who.2,Value.slice I is.length ci,Value.slice F fs.length cf,Value.int .i64 nx] 33)).alloc (.cells #[Value.string { data:=#[] },Value.string { data:=#[] },Value.slice none 0 0,Value.slice none 0 0,Value.int .i64 0] 33)).heap.size = w.heap.size + 2:=by simp
 have oB : Own ((w.alloc (.cells #[Value.string who.1,Value.string who.2,Value.slice I is.length ci,Value.slice F fs.length cf,Value.int .i64 nx] 33)).alloc (.cells #[Value.string { data:=#[] },Value.string { data:=#[] },Value.slice none 0 0,Value.slice none 0 0,Value.int .i64 0] 33)) w.heap.size 33 5 (some ⟨w.heap.size,0,none⟩) 1 1 (bxC who I is.length ci F fs.length cf nx):=Own.below (Own.lit w 33 5 1 #[Value.string who.1,Value.string who.2,Value.slice I is.length ci,Value.slice F fs.length cf,Value.int .i64 nx] (bxC who I is.length ci F fs.length cf nx) (by simp only [maxLen]; omega) rfl) ((Below.refl _ _).alloc (Nat.le_refl _) _)
 have oR : Own ((w.alloc (.cells #[Value.string who.1,Value.string who.2,Value.slice I is.length ci,Value.slice F fs.length cf,Value.int .i64 nx] 33)).alloc (.cells #[Value.string { data:=#[] },Value.string { data:=#[] },Value.slice none 0 0,Value.slice none 0 0,Value.int .i64 0] 33)) (w.heap.size + 1) 33 5 (some ⟨w.heap.size + 1,0,none⟩) 1 1 zBr':=by
  have:=Own.lit (w.alloc (.cells #[Value.string who.1,Value.string who.2,Value.slice I is.length ci,Value.slice F fs.length cf,Value.int .i64 nx] 33)) 33 5 1 #[Value.string { data:=#[] },Value.string { data:=#[] },Value.slice none 0 0,Value.slice none 0 0,Value.int .i64 0] zBr' (by simp only [maxLen]; omega) rfl
  rw [zw] at this
  exact this
 clear zw
 have HB:=Lib.hid hv
 obtain ⟨hw,hi,hf,hn⟩:=brB_of hv
 have hi8:=fd_len hi
 have hf10:=(Fv.of hf).1
 have HI:=Lib.hid hi
 have HF:=Lib.hid hf
 clear hw hi hf hn hv
 have HT:=Lib.hid hT
 clear hT
 have hIA:=Own.below hI hbA
 have hNI : ∀ b,blk I = some b → b ≠ w.heap.size + 1:=fun b hb => by have:=(Own.lt hI hb).2; omega
 have hFA:=Own.below hF hbA
 have hNF : ∀ b,blk F = some b → b ≠ w.heap.size + 1:=fun b hb => by have:=(Own.lt hF hb).2; omega
 have HE:=Lib.hid (hE.below hbA (Nat.le_refl _))
 clear hE
 go_enter Tryz.func49,Tryz.ntmps49
 go_wp2_with fail
 generalize ((w.alloc (.cells #[Value.string who.1,Value.string who.2,Value.slice I is.length ci,Value.slice F fs.length cf,Value.int .i64 nx] 33)).alloc (.cells #[Value.string { data:=#[] },Value.string { data:=#[] },Value.slice none 0 0,Value.slice none 0 0,Value.int .i64 0] 33)) = wA at *
 refine (implReadItem_any text wA hs HE.out).mono ?_
 rintro e w1 ⟨rfl,b1⟩
 have k1:=hbA.trans (b1.mono hbA.size)
 have hI1:=Own.below hIA b1
 have hF1:=Own.below hFA b1
 have oB1:=Own.below oB b1
 have oR1:=Own.below oR b1
 have z1 : w.heap.size + 1 < w1.heap.size:=by have:=b1.size; omega
 have b12 : Below w1.heap.size w1 (w1.alloc (.cells #[Value.string (riOf text).1,Value.string (riOf text).2.1,Value.string (riOf text).2.2.1,Value.int .i64 (riOf text).2.2.2] 69)):=(Below.refl _ _).alloc (Nat.le_refl _) _
 have k2:=k1.trans (b12.mono k1.size)
 have oB2:=Own.below oB1 b12
 have oR2:=Own.below oR1 b12
 have hI2:=Own.below hI1 b12
 have hF2:=Own.below hF1 b12
 have x0 : (w1.alloc (.cells #[Value.string (riOf text).1,Value.string (riOf text).2.1,Value.string (riOf text).2.2.1,Value.int .i64 (riOf text).2.2.2] 69)).cell? ⟨w1.heap.size,0,none⟩ = some (Value.string (riOf text).1):=by rw [World.cell?_alloc_at _ _ _ _ rfl]; rfl
 have x1 : (w1.alloc (.cells #[Value.string (riOf text).1,Value.string (riOf text).2.1,Value.string (riOf text).2.2.1,Value.int .i64 (riOf text).2.2.2] 69)).cell? ⟨w1.heap.size,1,none⟩ = some (Value.string (riOf text).2.1):=by rw [World.cell?_alloc_at _ _ _ _ rfl]; rfl
 have x2 : (w1.alloc (.cells #[Value.string (riOf text).1,Value.string (riOf text).2.1,Value.string (riOf text).2.2.1,Value.int .i64 (riOf text).2.2.2] 69)).cell? ⟨w1.heap.size,2,none⟩ = some (Value.string (riOf text).2.2.1):=by rw [World.cell?_alloc_at _ _ _ _ rfl]; rfl
 have x3 : (w1.alloc (.cells #[Value.string (riOf text).1,Value.string (riOf text).2.1,Value.string (riOf text).2.2.1,Value.int .i64 (riOf text).2.2.2] 69)).cell? ⟨w1.heap.size,3,none⟩ = some (Value.int .i64 (riOf text).2.2.2):=by rw [World.cell?_alloc_at _ _ _ _ rfl]; rfl
 have zX : w1.heap.size < (w1.alloc (.cells #[Value.string (riOf text).1,Value.string (riOf text).2.1,Value.string (riOf text).2.2.1,Value.int .i64 (riOf text).2.2.2] 69)).heap.size:=by simp
 cases ho : riOk text
 ·have HQ : Hid (putOf (who,is,fs,nx) text = ((who,is,fs,nx),wNo)):=Lib.hid (by unfold putOf; rw [if_neg (by rw [ho]; simp)])
  have a0:=(show _ = some (Value.string who.1) from oB2.cell rfl (j:=0) (by omega))
  have a1:=(show _ = some (Value.string who.2) from oB2.cell rfl (j:=1) (by omega))
  have a2:=(show _ = some (Value.slice I is.length ci) from oB2.cell rfl (j:=2) (by omega))
  have a3:=(show _ = some (Value.slice F fs.length cf) from oB2.cell rfl (j:=3) (by omega))
  have a4:=(show _ = some (Value.int .i64 nx) from oB2.cell rfl (j:=4) (by omega))
  have r0:=(show _ = some (Value.string { data:=#[] }) from oR2.cell rfl (j:=0) (by omega))
  have rf0:=oR2.frozen rfl 0
  have r1:=(show _ = some (Value.string { data:=#[] }) from oR2.cell rfl (j:=1) (by omega))
  have rf1:=oR2.frozen rfl 1
  have r2:=(show _ = some (Value.slice none 0 0) from oR2.cell rfl (j:=2) (by omega))
  have rf2:=oR2.frozen rfl 2
  have r3:=(show _ = some (Value.slice none 0 0) from oR2.cell rfl (j:=3) (by omega))
  have rf3:=oR2.frozen rfl 3
  have r4:=(show _ = some (Value.int .i64 0) from oR2.cell rfl (j:=4) (by omega))
  have rf4:=oR2.frozen rfl 4
  clear ho
  go_upto_region 3 with fail
  generalize (w1.alloc (.cells #[Value.string (riOf text).1,Value.string (riOf text).2.1,Value.string (riOf text).2.2.1,Value.int .i64 (riOf text).2.2.2] 69)) = w2 at *
  go_wp2_with fail
  refine bodyPost_ret (v:=.tuple #[.agg #[Value.string who.1,Value.string who.2,Value.slice I is.length ci,Value.slice F fs.length cf,Value.int .i64 nx],.string { data:=#[110,111] }]) ?_ rfl ?_
  ·simp [results,Tryz.results49,go_sem,r0,r1,r2,r3,r4]
  ·rw [HQ.out]
   exact ⟨I,ci,F,cf,rfl,(own_setN (own_setN (own_setN (own_setN (own_setN hI2 (w.heap.size + 1) 0 (Value.string who.1) hNI) (w.heap.size + 1) 1 (Value.string who.2) hNI) (w.heap.size + 1) 2 (Value.slice I is.length ci) hNI) (w.heap.size + 1) 3 (Value.slice F fs.length cf) hNI) (w.heap.size + 1) 4 (Value.int .i64 nx) hNI),(own_setN (own_setN (own_setN (own_setN (own_setN hF2 (w.heap.size + 1) 0 (Value.string who.1) hNF) (w.heap.size + 1) 1 (Value.string who.2) hNF) (w.heap.size + 1) 2 (Value.slice I is.length ci) hNF) (w.heap.size + 1) 3 (Value.slice F fs.length cf) hNF) (w.heap.size + 1) 4 (Value.int .i64 nx) hNF),(((((k2.setCell (p:=⟨w.heap.size + 1,0,none⟩) (by show w.heap.size ≤ w.heap.size + 1; omega) (Value.string who.1)).setCell (p:=⟨w.heap.size + 1,1,none⟩) (by show w.heap.size ≤ w.heap.size + 1; omega) (Value.string who.2)).setCell (p:=⟨w.heap.size + 1,2,none⟩) (by show w.heap.size ≤ w.heap.size + 1; omega) (Value.slice I is.length ci)).setCell (p:=⟨w.heap.size + 1,3,none⟩) (by show w.heap.size ≤ w.heap.size + 1; omega) (Value.slice F fs.length cf)).setCell (p:=⟨w.heap.size + 1,4,none⟩) (by show w.heap.size ≤ w.heap.size + 1; omega) (Value.int .i64 nx))⟩
 ·have hX:=fd_one (riOf_valid ho)
  have HPQ : Hid (putOf (who,is,fs,nx) text = if (mfOf is [riOf text]).length = 0 then ((who,is,fs,nx),wNo) else tellOf (who,is,fs,nx) (mfOf is [riOf text])):=Lib.hid (by unfold putOf; rw [if_pos ho])
  clear ho
  generalize riOf text = x at *
  have a0:=(show _ = some (Value.string who.1) from oB2.cell rfl (j:=0) (by omega))
  have a1:=(show _ = some (Value.string who.2) from oB2.cell rfl (j:=1) (by omega))
  have a2:=(show _ = some (Value.slice I is.length ci) from oB2.cell rfl (j:=2) (by omega))
  have a3:=(show _ = some (Value.slice F fs.length cf) from oB2.cell rfl (j:=3) (by omega))
  have a4:=(show _ = some (Value.int .i64 nx) from oB2.cell rfl (j:=4) (by omega))
  have zw2 : (w1.alloc (.cells #[Value.string x.1,Value.string x.2.1,Value.string x.2.2.1,Value.int .i64 x.2.2.2] 69)).heap.size = w1.heap.size + 1:=by simp
  have oX : OwnE 4 encItem 69 ((w1.alloc (.cells #[Value.string x.1,Value.string x.2.1,Value.string x.2.2.1,Value.int .i64 x.2.2.2] 69)).alloc (.cells #[Value.string x.1,Value.string x.2.1,Value.string x.2.2.1,Value.int .i64 x.2.2.2] 69)) (w1.heap.size + 1) (some ⟨w1.heap.size + 1,0,none⟩) 1 [x]:=by
   have:=Own.lit (w1.alloc (.cells #[Value.string x.1,Value.string x.2.1,Value.string x.2.2.1,Value.int .i64 x.2.2.2] 69)) 69 4 1 #[Value.string x.1,Value.string x.2.1,Value.string x.2.2.1,Value.int .i64 x.2.2.2] (cE 4 encItem [x]) (by simp only [maxLen]; omega) rfl
   rw [zw2] at this
   exact this
  have b23 : Below (w1.alloc (.cells #[Value.string x.1,Value.string x.2.1,Value.string x.2.2.1,Value.int .i64 x.2.2.2] 69)).heap.size (w1.alloc (.cells #[Value.string x.1,Value.string x.2.1,Value.string x.2.2.1,Value.int .i64 x.2.2.2] 69)) ((w1.alloc (.cells #[Value.string x.1,Value.string x.2.1,Value.string x.2.2.1,Value.int .i64 x.2.2.2] 69)).alloc (.cells #[Value.string x.1,Value.string x.2.1,Value.string x.2.2.1,Value.int .i64 x.2.2.2] 69)):=(Below.refl _ _).alloc (Nat.le_refl _) _
  have k3:=k2.trans (b23.mono k2.size)
  have oB3:=Own.below oB2 b23
  have oR3:=Own.below oR2 b23
  have hI3:=Own.below hI2 b23
  have hF3:=Own.below hF2 b23
  go_wp2_with fail
  generalize ((w1.alloc (.cells #[Value.string x.1,Value.string x.2.1,Value.string x.2.2.1,Value.int .i64 x.2.2.2] 69)).alloc (.cells #[Value.string x.1,Value.string x.2.1,Value.string x.2.2.1,Value.int .i64 x.2.2.2] 69)) = w3 at *
  refine (implMergeFeeds_any I ci (some ⟨w1.heap.size + 1,0,none⟩) 1 w3.heap.size is [x] w3 (OwnE.rd hI3) (OwnE.rd oX) (Nat.le_refl _) (OwnE.capLe hI3) (Nat.le_refl _) HI.out hX).mono ?_
  rintro e w4 ⟨R,cR,rfl,oM,b4⟩
  have k4:=k3.trans (b4.mono k3.size)
  have hM:=mfOf_fd HI.out hX
  generalize mfOf is [x] = ms at *
  have oB4:=Own.below oB3 b4
  have oR4:=Own.below oR3 b4
  have hI4:=Own.below hI3 b4
  have hF4:=Own.below hF3 b4
  have oM4:=Own.more (base':=base) oM (Nat.le_trans hb k3.size)
  clear a0 a1 a2 a3 a4
  have a0:=(show _ = some (Value.string who.1) from oB4.cell rfl (j:=0) (by omega))
  have a1:=(show _ = some (Value.string who.2) from oB4.cell rfl (j:=1) (by omega))
  have a2:=(show _ = some (Value.slice I is.length ci) from oB4.cell rfl (j:=2) (by omega))
  have a3:=(show _ = some (Value.slice F fs.length cf) from oB4.cell rfl (j:=3) (by omega))
  have a4:=(show _ = some (Value.int .i64 nx) from oB4.cell rfl (j:=4) (by omega))
  by_cases hz : ms.length = 0
  ·have e0 : (((ms.length : Nat) : Int) == 0) = true:=by rw [hz]; rfl
   have HQ : Hid (putOf (who,is,fs,nx) text = ((who,is,fs,nx),wNo)):=Lib.hid (by rw [HPQ.out,if_pos hz])
   clear hz
   have r0:=(show _ = some (Value.string { data:=#[] }) from oR4.cell rfl (j:=0) (by omega))
   have rf0:=oR4.frozen rfl 0
   have r1:=(show _ = some (Value.string { data:=#[] }) from oR4.cell rfl (j:=1) (by omega))
   have rf1:=oR4.frozen rfl 1
   have r2:=(show _ = some (Value.slice none 0 0) from oR4.cell rfl (j:=2) (by omega))
   have rf2:=oR4.frozen rfl 2
   have r3:=(show _ = some (Value.slice none 0 0) from oR4.cell rfl (j:=3) (by omega))
   have rf3:=oR4.frozen rfl 3
   have r4:=(show _ = some (Value.int .i64 0) from oR4.cell rfl (j:=4) (by omega))
   have rf4:=oR4.frozen rfl 4
   go_wp2_with fail
   refine bodyPost_ret (v:=.tuple #[.agg #[Value.string who.1,Value.string who.2,Value.slice I is.length ci,Value.slice F fs.length cf,Value.int .i64 nx],.string { data:=#[110,111] }]) ?_ rfl ?_
   ·simp [results,Tryz.results49,go_sem,r0,r1,r2,r3,r4]
   ·rw [HQ.out]
    exact ⟨I,ci,F,cf,rfl,(own_setN (own_setN (own_setN (own_setN (own_setN hI4 (w.heap.size + 1) 0 (Value.string who.1) hNI) (w.heap.size + 1) 1 (Value.string who.2) hNI) (w.heap.size + 1) 2 (Value.slice I is.length ci) hNI) (w.heap.size + 1) 3 (Value.slice F fs.length cf) hNI) (w.heap.size + 1) 4 (Value.int .i64 nx) hNI),(own_setN (own_setN (own_setN (own_setN (own_setN hF4 (w.heap.size + 1) 0 (Value.string who.1) hNF) (w.heap.size + 1) 1 (Value.string who.2) hNF) (w.heap.size + 1) 2 (Value.slice I is.length ci) hNF) (w.heap.size + 1) 3 (Value.slice F fs.length cf) hNF) (w.heap.size + 1) 4 (Value.int .i64 nx) hNF),(((((k4.setCell (p:=⟨w.heap.size + 1,0,none⟩) (by show w.heap.size ≤ w.heap.size + 1; omega) (Value.string who.1)).setCell (p:=⟨w.heap.size + 1,1,none⟩) (by show w.heap.size ≤ w.heap.size + 1; omega) (Value.string who.2)).setCell (p:=⟨w.heap.size + 1,2,none⟩) (by show w.heap.size ≤ w.heap.size + 1; omega) (Value.slice I is.length ci)).setCell (p:=⟨w.heap.size + 1,3,none⟩) (by show w.heap.size ≤ w.heap.size + 1; omega) (Value.slice F fs.length cf)).setCell (p:=⟨w.heap.size + 1,4,none⟩) (by show w.heap.size ≤ w.heap.size + 1; omega) (Value.int .i64 nx))⟩
  ·have e0 : (((ms.length : Nat) : Int) == 0) = false:=by rw [beq_eq_false_iff_ne]; omega
   have HQ : Hid (putOf (who,is,fs,nx) text = tellOf (who,is,fs,nx) ms):=Lib.hid (by rw [HPQ.out,if_neg hz])
   clear hz
   go_wp2_with fail
   refine (tellItems_any ms R cR who is fs nx I ci F cf base w4 hI4 hF4 (Nat.le_trans hb k4.size) HB.out (HT.out.below k4 (Nat.le_refl _)) oM4 hM).mono ?_
   rintro e w5 ⟨I',ci',F',cf',rfl,o1,o2,b5⟩
   have k5:=k4.trans (b5.mono k4.size)
   have oR5:=Own.below oR4 b5
   have hNI' : ∀ b,blk I' = some b → b ≠ w.heap.size + 1:=fun b hb e => own_ne o1 oR5 (by decide) b hb (by rw [e]; rfl)
   have hNF' : ∀ b,blk F' = some b → b ≠ w.heap.size + 1:=fun b hb e => own_ne o2 oR5 (by decide) b hb (by rw [e]; rfl)
   have r0:=(show _ = some (Value.string { data:=#[] }) from oR5.cell rfl (j:=0) (by omega))
   have rf0:=oR5.frozen rfl 0
   have r1:=(show _ = some (Value.string { data:=#[] }) from oR5.cell rfl (j:=1) (by omega))
   have rf1:=oR5.frozen rfl 1
   have r2:=(show _ = some (Value.slice none 0 0) from oR5.cell rfl (j:=2) (by omega))
   have rf2:=oR5.frozen rfl 2
   have r3:=(show _ = some (Value.slice none 0 0) from oR5.cell rfl (j:=3) (by omega))
   have rf3:=oR5.frozen rfl 3
   have r4:=(show _ = some (Value.int .i64 0) from oR5.cell rfl (j:=4) (by omega))
   have rf4:=oR5.frozen rfl 4
   generalize tellOf (who,is,fs,nx) ms = res at *
   go_wp2_with fail
   refine bodyPost_ret (v:=.tuple #[.agg #[Value.string res.1.1.1,Value.string res.1.1.2,Value.slice I' res.1.2.1.length ci',Value.slice F' res.1.2.2.1.length cf',Value.int .i64 res.1.2.2.2],.string res.2]) ?_ rfl ?_
   ·simp [results,Tryz.results49,go_sem,r0,r1,r2,r3,r4]
   ·rw [HQ.out]
    exact ⟨I',ci',F',cf',rfl,(own_setN (own_setN (own_setN (own_setN (own_setN o1 (w.heap.size + 1) 0 (Value.string res.1.1.1) hNI') (w.heap.size + 1) 1 (Value.string res.1.1.2) hNI') (w.heap.size + 1) 2 (Value.slice I' res.1.2.1.length ci') hNI') (w.heap.size + 1) 3 (Value.slice F' res.1.2.2.1.length cf') hNI') (w.heap.size + 1) 4 (Value.int .i64 res.1.2.2.2) hNI'),(own_setN (own_setN (own_setN (own_setN (own_setN o2 (w.heap.size + 1) 0 (Value.string res.1.1.1) hNF') (w.heap.size + 1) 1 (Value.string res.1.1.2) hNF') (w.heap.size + 1) 2 (Value.slice I' res.1.2.1.length ci') hNF') (w.heap.size + 1) 3 (Value.slice F' res.1.2.2.1.length cf') hNF') (w.heap.size + 1) 4 (Value.int .i64 res.1.2.2.2) hNF'),(((((k5.setCell (p:=⟨w.heap.size + 1,0,none⟩) (by show w.heap.size ≤ w.heap.size + 1; omega) (Value.string res.1.1.1)).setCell (p:=⟨w.heap.size + 1,1,none⟩) (by show w.heap.size ≤ w.heap.size + 1; omega) (Value.string res.1.1.2)).setCell (p:=⟨w.heap.size + 1,2,none⟩) (by show w.heap.size ≤ w.heap.size + 1; omega) (Value.slice I' res.1.2.1.length ci')).setCell (p:=⟨w.heap.size + 1,3,none⟩) (by show w.heap.size ≤ w.heap.size + 1; omega) (Value.slice F' res.1.2.2.1.length cf')).setCell (p:=⟨w.heap.size + 1,4,none⟩) (by show w.heap.size ≤ w.heap.size + 1; omega) (Value.int .i64 res.1.2.2.2))⟩
def aggS (base : Nat) (res : ElBr × ByteArray) : Spec:=fun v w => ∃ (I' : Option Addr) (ci' : Nat) (F' : Option Addr) (cf' : Nat),v = .agg #[Value.string res.1.1.1,Value.string res.1.1.2,Value.slice I' res.1.2.1.length ci',Value.slice F' res.1.2.2.1.length cf',Value.int .i64 res.1.2.2.2] ∧ OwnE 4 encItem 69 w base I' ci' res.1.2.1 ∧ OwnE 2 encHandle 29 w base F' cf' res.1.2.2.1
theorem aggS_stb (base : Nat) (res : ElBr × ByteArray) : StbB (aggS base res):=fun _ _ _ h ⟨A,c,A',c',h1,h2,h3⟩ => ⟨A,c,A',c',h1,Own.below h2 h,Own.below h3 h⟩
def tupS (base : Nat) (res : ElBr × ByteArray) : Spec:=fun v w => ∃ u,v = .tuple #[u,.string res.2] ∧ aggS base res u w
theorem tupS_stb (base : Nat) (res : ElBr × ByteArray) : StbB (tupS base res):=fun _ _ _ h ⟨u,h1,h2⟩ => ⟨u,h1,aggS_stb _ _ _ _ _ h h2⟩
set_option maxHeartbeats 3200000 in
theorem takeItem_any (key : ByteArray) (who : ElHandle) (is : List ElItem) (fs : List ElHandle) (nx : Int) (I : Option Addr) (ci : Nat) (F : Option Addr) (cf base : Nat) (w : World) (hI : OwnE 4 encItem 69 w base I ci is) (hF : OwnE 2 encHandle 29 w base F cf fs) (hb : base ≤ w.heap.size) (hv : brB who is fs nx = true) (hT : KwTab w) :
    Calls Tryz.prog 50 #[.agg #[Value.string who.1,Value.string who.2,Value.slice I is.length ci,Value.slice F fs.length cf,Value.int .i64 nx],.string key] w (OutBl base (takeOf (who,is,fs,nx) key) w):=by
 have zw : (w.alloc (.cells #[Value.string who.1,Value.string who.2,Value.slice I is.length ci,Value.slice F fs.length cf,Value.int .i64 nx] 33)).heap.size = w.heap.size + 1:=by simp
 have hbA : Below w.heap.size w ((w.alloc (.cells #[Value.string who.1,Value.string who.2,Value.slice I is.length ci,Value.slice F fs.length cf,Value.int .i64 nx] 33)).alloc (.cells #[Value.string { data:=#[] },Value.string { data:=#[] },Value.slice none 0 0,Value.slice none 0 0,Value.int .i64 0] 33)):=((Below.refl _ _).alloc (Nat.le_refl _) _).alloc (by simp) _
 have zA : ((w.alloc (.cells #[Value.string who.1,Value.string who.2,Value.slice I is.length ci,Value.slice F fs.length cf,Value.int .i64 nx] 33)).alloc (.cells #[Value.string { data:=#[] },Value.string { data:=#[] },Value.slice none 0 0,Value.slice none 0 0,Value.int .i64 0] 33)).heap.size = w.heap.size + 2:=by simp
 have oB : Own ((w.alloc (.cells #[Value.string who.1,Value.string who.2,Value.slice I is.length ci,Value.slice F fs.length cf,Value.int .i64 nx] 33)).alloc (.cells #[Value.string { data:=#[] },Value.string { data:=#[] },Value.slice none 0 0,Value.slice none 0 0,Value.int .i64 0] 33)) w.heap.size 33 5 (some ⟨w.heap.size,0,none⟩) 1 1 (bxC who I is.length ci F fs.length cf nx):=Own.below (Own.lit w 33 5 1 #[Value.string who.1,Value.string who.2,Value.slice I is.length ci,Value.slice F fs.length cf,Value.int .i64 nx] (bxC who I is.length ci F fs.length cf nx) (by simp only [maxLen]; omega) rfl) ((Below.refl _ _).alloc (Nat.le_refl _) _)
 have oR : Own ((w.alloc (.cells #[Value.string who.1,Value.string who.2,Value.slice I is.length ci,Value.slice F fs.length cf,Value.int .i64 nx] 33)).alloc (.cells #[Value.string { data:=#[] },Value.string { data:=#[] },Value.slice none 0 0,Value.slice none 0 0,Value.int .i64 0] 33)) (w.heap.size + 1) 33 5 (some ⟨w.heap.size + 1,0,none⟩) 1 1 zBr':=by
  have:=Own.lit (w.alloc (.cells #[Value.string who.1,Value.string who.2,Value.slice I is.length ci,Value.slice F fs.length cf,Value.int .i64 nx] 33)) 33 5 1 #[Value.string { data:=#[] },Value.string { data:=#[] },Value.slice none 0 0,Value.slice none 0 0,Value.int .i64 0] zBr' (by simp only [maxLen]; omega) rfl
  rw [zw] at this
  exact this
 clear zw
 have HB:=Lib.hid hv
 obtain ⟨hw,hi,hf,hn⟩:=brB_of hv
 have hi8:=fd_len hi
 have hf10:=(Fv.of hf).1
 have HI:=Lib.hid hi
 have HF:=Lib.hid hf
 clear hw hi hf hn hv
 have HT:=Lib.hid hT
 clear hT
 have hIA:=Own.below hI hbA
 have hNI : ∀ b,blk I = some b → b ≠ w.heap.size + 1:=fun b hb => by have:=(Own.lt hI hb).2; omega
 have hFA:=Own.below hF hbA
 have hNF : ∀ b,blk F = some b → b ≠ w.heap.size + 1:=fun b hb => by have:=(Own.lt hF hb).2; omega
 have a0:=(show _ = some (Value.string who.1) from oB.cell rfl (j:=0) (by omega))
 have a1:=(show _ = some (Value.string who.2) from oB.cell rfl (j:=1) (by omega))
 have a2:=(show _ = some (Value.slice I is.length ci) from oB.cell rfl (j:=2) (by omega))
 have a3:=(show _ = some (Value.slice F fs.length cf) from oB.cell rfl (j:=3) (by omega))
 have a4:=(show _ = some (Value.int .i64 nx) from oB.cell rfl (j:=4) (by omega))
 go_enter Tryz.func50,Tryz.ntmps50
 go_wp2_with fail
 generalize ((w.alloc (.cells #[Value.string who.1,Value.string who.2,Value.slice I is.length ci,Value.slice F fs.length cf,Value.int .i64 nx] 33)).alloc (.cells #[Value.string { data:=#[] },Value.string { data:=#[] },Value.slice none 0 0,Value.slice none 0 0,Value.int .i64 0] 33)) = wA at *
 refine (itemNumber_any I ci wA.heap.size is key wA (OwnE.rd hIA) (Nat.le_refl _) (by omega)).mono ?_
 rintro e w1 ⟨rfl,b1⟩
 have k1:=hbA.trans (b1.mono hbA.size)
 have hI1:=Own.below hIA b1
 have hF1:=Own.below hFA b1
 have oB1:=Own.below oB b1
 have oR1:=Own.below oR b1
 have z1 : w.heap.size + 1 < w1.heap.size:=by have:=b1.size; omega
 clear a0 a1 a2 a3 a4
 cases ho : hasK is key
 ·have hx:=ix_neg ho
  rw [hx]
  have HQ : Hid (takeOf (who,is,fs,nx) key = ((who,is,fs,nx),wNo)):=Lib.hid (by unfold takeOf; rw [if_neg (by rw [ho]; simp)])
  clear ho hx
  have a0:=(show _ = some (Value.string who.1) from oB1.cell rfl (j:=0) (by omega))
  have a1:=(show _ = some (Value.string who.2) from oB1.cell rfl (j:=1) (by omega))
  have a2:=(show _ = some (Value.slice I is.length ci) from oB1.cell rfl (j:=2) (by omega))
  have a3:=(show _ = some (Value.slice F fs.length cf) from oB1.cell rfl (j:=3) (by omega))
  have a4:=(show _ = some (Value.int .i64 nx) from oB1.cell rfl (j:=4) (by omega))
  have r0:=(show _ = some (Value.string { data:=#[] }) from oR1.cell rfl (j:=0) (by omega))
  have rf0:=oR1.frozen rfl 0
  have r1:=(show _ = some (Value.string { data:=#[] }) from oR1.cell rfl (j:=1) (by omega))
  have rf1:=oR1.frozen rfl 1
  have r2:=(show _ = some (Value.slice none 0 0) from oR1.cell rfl (j:=2) (by omega))
  have rf2:=oR1.frozen rfl 2
  have r3:=(show _ = some (Value.slice none 0 0) from oR1.cell rfl (j:=3) (by omega))
  have rf3:=oR1.frozen rfl 3
  have r4:=(show _ = some (Value.int .i64 0) from oR1.cell rfl (j:=4) (by omega))
  have rf4:=oR1.frozen rfl 4
  go_wp2_with fail
  refine bodyPost_ret (v:=.tuple #[.agg #[Value.string who.1,Value.string who.2,Value.slice I is.length ci,Value.slice F fs.length cf,Value.int .i64 nx],.string { data:=#[110,111] }]) ?_ rfl ?_
  ·simp [results,Tryz.results50,go_sem,r0,r1,r2,r3,r4]
  ·rw [HQ.out]
   exact ⟨I,ci,F,cf,rfl,(own_setN (own_setN (own_setN (own_setN (own_setN hI1 (w.heap.size + 1) 0 (Value.string who.1) hNI) (w.heap.size + 1) 1 (Value.string who.2) hNI) (w.heap.size + 1) 2 (Value.slice I is.length ci) hNI) (w.heap.size + 1) 3 (Value.slice F fs.length cf) hNI) (w.heap.size + 1) 4 (Value.int .i64 nx) hNI),(own_setN (own_setN (own_setN (own_setN (own_setN hF1 (w.heap.size + 1) 0 (Value.string who.1) hNF) (w.heap.size + 1) 1 (Value.string who.2) hNF) (w.heap.size + 1) 2 (Value.slice I is.length ci) hNF) (w.heap.size + 1) 3 (Value.slice F fs.length cf) hNF) (w.heap.size + 1) 4 (Value.int .i64 nx) hNF),(((((k1.setCell (p:=⟨w.heap.size + 1,0,none⟩) (by show w.heap.size ≤ w.heap.size + 1; omega) (Value.string who.1)).setCell (p:=⟨w.heap.size + 1,1,none⟩) (by show w.heap.size ≤ w.heap.size + 1; omega) (Value.string who.2)).setCell (p:=⟨w.heap.size + 1,2,none⟩) (by show w.heap.size ≤ w.heap.size + 1; omega) (Value.slice I is.length ci)).setCell (p:=⟨w.heap.size + 1,3,none⟩) (by show w.heap.size ≤ w.heap.size + 1; omega) (Value.slice F fs.length cf)).setCell (p:=⟨w.heap.size + 1,4,none⟩) (by show w.heap.size ≤ w.heap.size + 1; omega) (Value.int .i64 nx))⟩
 ·obtain ⟨kn,hk,hx,_,_⟩:=ix_pos ho
  rw [hx]
  have hg:=goOf_at HI.out hx
  have gj : decide ((kn : Int) < 0) = false:=decide_eq_false (by omega)
  have HQ : Hid (takeOf (who,is,fs,nx) key = tellOf (who,is,fs,nx) (goOf is key)):=Lib.hid (by unfold takeOf; rw [if_pos ho])
  have hM:=goOf_fd (key:=key) HI.out
  clear ho hx
  have HWO:=fun (z : World) (kz : Below w1.heap.size w1 z) => withoutAtItem_any I ci w1.heap.size is kn z ((OwnE.rd hI1).below kz) kz.size (Own.shp hI1) hk (by omega)
  rw [← hg.2] at HWO
  have HWO:=Lib.hid HWO
  clear hg
  generalize goOf is key = ms at *
  have a0:=(show _ = some (Value.string who.1) from oB1.cell rfl (j:=0) (by omega))
  have a1:=(show _ = some (Value.string who.2) from oB1.cell rfl (j:=1) (by omega))
  have a2:=(show _ = some (Value.slice I is.length ci) from oB1.cell rfl (j:=2) (by omega))
  have a3:=(show _ = some (Value.slice F fs.length cf) from oB1.cell rfl (j:=3) (by omega))
  have a4:=(show _ = some (Value.int .i64 nx) from oB1.cell rfl (j:=4) (by omega))
  go_wp2_with fail
  have hres : ∃ res,res = tellOf (who,is,fs,nx) ms:=⟨_,rfl⟩
  obtain ⟨res,hres⟩:=hres
  have HRES:=Lib.hid hres
  clear hres
  refine wp_region_makes 8 [(isS (.agg #[Value.string who.1,Value.string who.2,Value.slice I is.length ci,Value.slice F fs.length cf,Value.int .i64 nx])),(isS (.pointer (some ⟨w.heap.size,2,none⟩))),(isS (.slice I is.length ci)),(isS (.int .i64 (kn : Int))),(ownS base 69 4 ms.length (cE 4 encItem ms)),(tupS base res),(aggS base res),(isS (.string res.2))] [0,0,0,0,0,0,0,0] (by kernel_rfl) (by kernel_rfl) (by rfl) (by rfl) (by rfl) ?_ ?_ ?_
  ·repeat (first | exact stbB_nil | refine stbB_cons (by first | exact isS_stb _ | exact ownS_stb _ _ _ _ _ | exact tupS_stb _ _ | exact aggS_stb _ _) ?_)
  ·simp only [List.take_succ_cons,List.take_zero]
   refine looseSteps_cons (fun k a' w' hk0' hk1' hR hG hkp hd => ?_) ?_
   ·have hR0 : Below w1.drew.heap.size w1.drew w':=hR
    have hRb : Below w1.heap.size w1 w':=⟨hR0.os,hR0.tape,hR0.output,hR0.size,hR0.block⟩
    have k2' : a'.tmps.getD 2 undef = .pointer (some ⟨w.heap.size,0,none⟩):=hkp 2 (by rfl)
    have rr0:=(hRb.cell (p:=⟨w.heap.size,0,none⟩) (by show w.heap.size < _; omega)).trans a0
    have rr1:=(hRb.cell (p:=⟨w.heap.size,1,none⟩) (by show w.heap.size < _; omega)).trans a1
    have rr2:=(hRb.cell (p:=⟨w.heap.size,2,none⟩) (by show w.heap.size < _; omega)).trans a2
    have rr3:=(hRb.cell (p:=⟨w.heap.size,3,none⟩) (by show w.heap.size < _; omega)).trans a3
    have rr4:=(hRb.cell (p:=⟨w.heap.size,4,none⟩) (by show w.heap.size < _; omega)).trans a4
    unfold looseRun
    go_simp
    exact ⟨Below.refl _ _,trivial,rfl⟩
   refine looseSteps_cons (fun k a' w' hk0' hk1' hR hG hkp hd => ?_) ?_
   ·have hR0 : Below w1.drew.heap.size w1.drew w':=hR
    have hRb : Below w1.heap.size w1 w':=⟨hR0.os,hR0.tape,hR0.output,hR0.size,hR0.block⟩
    have k2' : a'.tmps.getD 2 undef = .pointer (some ⟨w.heap.size,0,none⟩):=hkp 2 (by rfl)
    unfold looseRun
    go_simp
    exact ⟨Below.refl _ _,trivial,rfl⟩
   refine looseSteps_cons (fun k a' w' hk0' hk1' hR hG hkp hd => ?_) ?_
   ·have hR0 : Below w1.drew.heap.size w1.drew w':=hR
    have hRb : Below w1.heap.size w1 w':=⟨hR0.os,hR0.tape,hR0.output,hR0.size,hR0.block⟩
    have e1:=hd.1 rfl
    have e1' : a'.tmps.getD 15 undef = _:=e1
    have e1q:=e1'
    rw [Array.getD_eq_getD_getElem?] at e1q
    have rr2:=(hRb.cell (p:=⟨w.heap.size,2,none⟩) (by show w.heap.size < _; omega)).trans a2
    unfold looseRun
    go_simp
    exact ⟨Below.refl _ _,trivial,rfl⟩
   refine looseSteps_cons (fun k a' w' hk0' hk1' hR hG hkp hd => ?_) ?_
   ·have hR0 : Below w1.drew.heap.size w1.drew w':=hR
    have hRb : Below w1.heap.size w1 w':=⟨hR0.os,hR0.tape,hR0.output,hR0.size,hR0.block⟩
    have k6' : a'.tmps.getD 6 undef = .int .i64 (kn : Int):=hkp 6 (by rfl)
    unfold looseRun
    go_simp
    exact ⟨Below.refl _ _,trivial,rfl⟩
   refine looseSteps_cons (fun k a' w' hk0' hk1' hR hG hkp hd => ?_) ?_
   ·have hR0 : Below w1.drew.heap.size w1.drew w':=hR
    have hRb : Below w1.heap.size w1 w':=⟨hR0.os,hR0.tape,hR0.output,hR0.size,hR0.block⟩
    have e1:=hd.1 rfl
    have e2:=hd.2.1 rfl
    have e1' : a'.tmps.getD 16 undef = _:=e1
    have e1q:=e1'
    rw [Array.getD_eq_getD_getElem?] at e1q
    have e2' : a'.tmps.getD 17 undef = _:=e2
    have e2q:=e2'
    rw [Array.getD_eq_getD_getElem?] at e2q
    unfold looseRun
    go_simp
    refine ⟨rfl,(HWO.out _ hRb).mono ?_⟩
    rintro e w2 ⟨T',c',rfl,o,hb2⟩
    exact ⟨_,rfl,hb2,trivial,_,_,rfl,Own.more o (by have:=k1.size; have:=hRb.size; omega)⟩
   refine looseSteps_cons (fun k a' w' hk0' hk1' hR hG hkp hd => ?_) ?_
   ·have hR0 : Below w1.drew.heap.size w1.drew w':=hR
    have hRb : Below w1.heap.size w1 w':=⟨hR0.os,hR0.tape,hR0.output,hR0.size,hR0.block⟩
    have e1:=hd.1 rfl
    obtain ⟨R,cR,e2,oM⟩:=hd.2.1 rfl
    have e1' : a'.tmps.getD 14 undef = _:=e1
    have e1q:=e1'
    rw [Array.getD_eq_getD_getElem?] at e1q
    have e2' : a'.tmps.getD 18 undef = _:=e2
    have e2q:=e2'
    rw [Array.getD_eq_getD_getElem?] at e2q
    unfold looseRun
    go_simp
    refine ⟨rfl,(tellItems_any ms R cR who is fs nx I ci F cf base w' (Own.below hI1 hRb) (Own.below hF1 hRb) (by have:=k1.size; have:=hRb.size; omega) HB.out (HT.out.below (k1.trans (hRb.mono k1.size)) (Nat.le_refl _)) oM hM).mono ?_⟩
    rw [← HRES.out]
    rintro e w2 ⟨I',ci',F',cf',rfl,o1,o2,hb2⟩
    exact ⟨_,rfl,hb2,trivial,_,rfl,I',ci',F',cf',rfl,o1,o2⟩
   refine looseSteps_cons (fun k a' w' hk0' hk1' hR hG hkp hd => ?_) ?_
   ·have hR0 : Below w1.drew.heap.size w1.drew w':=hR
    have hRb : Below w1.heap.size w1 w':=⟨hR0.os,hR0.tape,hR0.output,hR0.size,hR0.block⟩
    obtain ⟨u,e1,hu⟩:=hd.1 rfl
    have e1' : a'.tmps.getD 19 undef = _:=e1
    have e1q:=e1'
    rw [Array.getD_eq_getD_getElem?] at e1q
    unfold looseRun
    go_simp
    exact ⟨Below.refl _ _,trivial,hu⟩
   refine looseSteps_cons (fun k a' w' hk0' hk1' hR hG hkp hd => ?_) ?_
   ·have hR0 : Below w1.drew.heap.size w1.drew w':=hR
    have hRb : Below w1.heap.size w1 w':=⟨hR0.os,hR0.tape,hR0.output,hR0.size,hR0.block⟩
    obtain ⟨u,e1,hu⟩:=hd.1 rfl
    have e1' : a'.tmps.getD 19 undef = _:=e1
    have e1q:=e1'
    rw [Array.getD_eq_getD_getElem?] at e1q
    unfold looseRun
    go_simp
    exact ⟨Below.refl _ _,trivial,rfl⟩
   exact looseSteps_nil
  ·intro w5 b5
   simp only [List.take_succ_cons,List.take_zero,List.drop_succ_cons,List.drop_zero]
   refine looseAll_cons fun v14 h14 => ?_
   refine looseAll_cons fun v15 h15 => ?_
   refine looseAll_cons fun v16 h16 => ?_
   refine looseAll_cons fun v17 h17 => ?_
   refine looseAll_cons fun v18 h18 => ?_
   refine looseAll_cons fun v19 h19 => ?_
   refine looseAll_cons fun v20 h20 => ?_
   refine looseAll_cons fun v21 h21 => ?_
   refine looseAll_nil ?_
   have e2 : v21 = .string res.2:=h21
   subst e2
   obtain ⟨I',ci',F',cf',rfl,o1,o2⟩:=h20
   clear h14 h15 h16 h17 h18 h19 h21
   have k5:=k1.trans (b5.mono k1.size)
   have oR5:=Own.below oR1 b5
   have hNI' : ∀ b,blk I' = some b → b ≠ w.heap.size + 1:=fun b hb e => own_ne o1 oR5 (by decide) b hb (by rw [e]; rfl)
   have hNF' : ∀ b,blk F' = some b → b ≠ w.heap.size + 1:=fun b hb e => own_ne o2 oR5 (by decide) b hb (by rw [e]; rfl)
   clear a0 a1 a2 a3 a4
   have r0:=(show _ = some (Value.string { data:=#[] }) from oR5.cell rfl (j:=0) (by omega))
   have rf0:=oR5.frozen rfl 0
   have r1:=(show _ = some (Value.string { data:=#[] }) from oR5.cell rfl (j:=1) (by omega))
   have rf1:=oR5.frozen rfl 1
   have r2:=(show _ = some (Value.slice none 0 0) from oR5.cell rfl (j:=2) (by omega))
   have rf2:=oR5.frozen rfl 2
   have r3:=(show _ = some (Value.slice none 0 0) from oR5.cell rfl (j:=3) (by omega))
   have rf3:=oR5.frozen rfl 3
   have r4:=(show _ = some (Value.int .i64 0) from oR5.cell rfl (j:=4) (by omega))
   have rf4:=oR5.frozen rfl 4
   rw [← HRES.out] at HQ
   simp only [Act.put,List.setIfInBounds_toArray,List.set_cons_zero,List.set_cons_succ]
   go_wp2_with fail
   refine bodyPost_ret (v:=.tuple #[.agg #[Value.string res.1.1.1,Value.string res.1.1.2,Value.slice I' res.1.2.1.length ci',Value.slice F' res.1.2.2.1.length cf',Value.int .i64 res.1.2.2.2],.string res.2]) ?_ rfl ?_
   ·simp [results,Tryz.results50,go_sem,r0,r1,r2,r3,r4]
   ·rw [HQ.out]
    exact ⟨I',ci',F',cf',rfl,(own_setN (own_setN (own_setN (own_setN (own_setN o1 (w.heap.size + 1) 0 (Value.string res.1.1.1) hNI') (w.heap.size + 1) 1 (Value.string res.1.1.2) hNI') (w.heap.size + 1) 2 (Value.slice I' res.1.2.1.length ci') hNI') (w.heap.size + 1) 3 (Value.slice F' res.1.2.2.1.length cf') hNI') (w.heap.size + 1) 4 (Value.int .i64 res.1.2.2.2) hNI'),(own_setN (own_setN (own_setN (own_setN (own_setN o2 (w.heap.size + 1) 0 (Value.string res.1.1.1) hNF') (w.heap.size + 1) 1 (Value.string res.1.1.2) hNF') (w.heap.size + 1) 2 (Value.slice I' res.1.2.1.length ci') hNF') (w.heap.size + 1) 3 (Value.slice F' res.1.2.2.1.length cf') hNF') (w.heap.size + 1) 4 (Value.int .i64 res.1.2.2.2) hNF'),(((((k5.setCell (p:=⟨w.heap.size + 1,0,none⟩) (by show w.heap.size ≤ w.heap.size + 1; omega) (Value.string res.1.1.1)).setCell (p:=⟨w.heap.size + 1,1,none⟩) (by show w.heap.size ≤ w.heap.size + 1; omega) (Value.string res.1.1.2)).setCell (p:=⟨w.heap.size + 1,2,none⟩) (by show w.heap.size ≤ w.heap.size + 1; omega) (Value.slice I' res.1.2.1.length ci')).setCell (p:=⟨w.heap.size + 1,3,none⟩) (by show w.heap.size ≤ w.heap.size + 1; omega) (Value.slice F' res.1.2.2.1.length cf')).setCell (p:=⟨w.heap.size + 1,4,none⟩) (by show w.heap.size ≤ w.heap.size + 1; omega) (Value.int .i64 res.1.2.2.2))⟩
set_option maxHeartbeats 3200000 in
theorem changeFansF_any (text : ByteArray) (who : ElHandle) (is : List ElItem) (fs : List ElHandle) (nx : Int) (I : Option Addr) (ci : Nat) (F : Option Addr) (cf base : Nat) (w : World) (hI : OwnE 4 encItem 69 w base I ci is) (hF : OwnE 2 encHandle 29 w base F cf fs) (hb : base ≤ w.heap.size) (hv : brB who is fs nx = true) (hs : text.size ≤ maxLen) :
    Calls Tryz.prog 51 #[.agg #[Value.string who.1,Value.string who.2,Value.slice I is.length ci,Value.slice F fs.length cf,Value.int .i64 nx],.string text,.func (.func 52) #[] #[]] w (OutBl base (folwOf (who,is,fs,nx) text) w):=by
 have zw : (w.alloc (.cells #[Value.string who.1,Value.string who.2,Value.slice I is.length ci,Value.slice F fs.length cf,Value.int .i64 nx] 33)).heap.size = w.heap.size + 1:=by simp
 have hbA : Below w.heap.size w ((w.alloc (.cells #[Value.string who.1,Value.string who.2,Value.slice I is.length ci,Value.slice F fs.length cf,Value.int .i64 nx] 33)).alloc (.cells #[Value.string { data:=#[] },Value.string { data:=#[] },Value.slice none 0 0,Value.slice none 0 0,Value.int .i64 0] 33)):=((Below.refl _ _).alloc (Nat.le_refl _) _).alloc (by simp) _
 have zA : ((w.alloc (.cells #[Value.string who.1,Value.string who.2,Value.slice I is.length ci,Value.slice F fs.length cf,Value.int .i64 nx] 33)).alloc (.cells #[Value.string { data:=#[] },Value.string { data:=#[] },Value.slice none 0 0,Value.slice none 0 0,Value.int .i64 0] 33)).heap.size = w.heap.size + 2:=by simp
 have oB : Own ((w.alloc (.cells #[Value.string who.1,Value.string who.2,Value.slice I is.length ci,Value.slice F fs.length cf,Value.int .i64 nx] 33)).alloc (.cells #[Value.string { data:=#[] },Value.string { data:=#[] },Value.slice none 0 0,Value.slice none 0 0,Value.int .i64 0] 33)) w.heap.size 33 5 (some ⟨w.heap.size,0,none⟩) 1 1 (bxC who I is.length ci F fs.length cf nx):=Own.below (Own.lit w 33 5 1 #[Value.string who.1,Value.string who.2,Value.slice I is.length ci,Value.slice F fs.length cf,Value.int .i64 nx] (bxC who I is.length ci F fs.length cf nx) (by simp only [maxLen]; omega) rfl) ((Below.refl _ _).alloc (Nat.le_refl _) _)
 have oR : Own ((w.alloc (.cells #[Value.string who.1,Value.string who.2,Value.slice I is.length ci,Value.slice F fs.length cf,Value.int .i64 nx] 33)).alloc (.cells #[Value.string { data:=#[] },Value.string { data:=#[] },Value.slice none 0 0,Value.slice none 0 0,Value.int .i64 0] 33)) (w.heap.size + 1) 33 5 (some ⟨w.heap.size + 1,0,none⟩) 1 1 zBr':=by
  have:=Own.lit (w.alloc (.cells #[Value.string who.1,Value.string who.2,Value.slice I is.length ci,Value.slice F fs.length cf,Value.int .i64 nx] 33)) 33 5 1 #[Value.string { data:=#[] },Value.string { data:=#[] },Value.slice none 0 0,Value.slice none 0 0,Value.int .i64 0] zBr' (by simp only [maxLen]; omega) rfl
  rw [zw] at this
  exact this
 clear zw
 have HB:=Lib.hid hv
 obtain ⟨hw,hi,hf,hn⟩:=brB_of hv
 have hi8:=fd_len hi
 have hf10:=(Fv.of hf).1
 have HI:=Lib.hid hi
 have HF:=Lib.hid hf
 clear hw hi hf hn hv
 have hIA:=Own.below hI hbA
 have hNI : ∀ b,blk I = some b → b ≠ w.heap.size + 1:=fun b hb => by have:=(Own.lt hI hb).2; omega
 have hFA:=Own.below hF hbA
 have hNF : ∀ b,blk F = some b → b ≠ w.heap.size + 1:=fun b hb => by have:=(Own.lt hF hb).2; omega
 go_enter Tryz.func51,Tryz.ntmps51
 go_wp2_with fail
 generalize ((w.alloc (.cells #[Value.string who.1,Value.string who.2,Value.slice I is.length ci,Value.slice F fs.length cf,Value.int .i64 nx] 33)).alloc (.cells #[Value.string { data:=#[] },Value.string { data:=#[] },Value.slice none 0 0,Value.slice none 0 0,Value.int .i64 0] 33)) = wA at *
 refine (implReadHandle_any text wA hs).mono ?_
 rintro e w1 ⟨rfl,b1⟩
 have k1:=hbA.trans (b1.mono hbA.size)
 have hI1:=Own.below hIA b1
 have hF1:=Own.below hFA b1
 have oB1:=Own.below oB b1
 have oR1:=Own.below oR b1
 have z1 : w.heap.size + 1 < w1.heap.size:=by have:=b1.size; omega
 have b12 : Below w1.heap.size w1 (w1.alloc (.cells #[Value.string (rhOf text).1,Value.string (rhOf text).2] 29)):=(Below.refl _ _).alloc (Nat.le_refl _) _
 have k2:=k1.trans (b12.mono k1.size)
 have oB2:=Own.below oB1 b12
 have oR2:=Own.below oR1 b12
 have hI2:=Own.below hI1 b12
 have hF2:=Own.below hF1 b12
 have x0 : (w1.alloc (.cells #[Value.string (rhOf text).1,Value.string (rhOf text).2] 29)).cell? ⟨w1.heap.size,0,none⟩ = some (Value.string (rhOf text).1):=by rw [World.cell?_alloc_at _ _ _ _ rfl]; rfl
 have x1 : (w1.alloc (.cells #[Value.string (rhOf text).1,Value.string (rhOf text).2] 29)).cell? ⟨w1.heap.size,1,none⟩ = some (Value.string (rhOf text).2):=by rw [World.cell?_alloc_at _ _ _ _ rfl]; rfl
 have zX : w1.heap.size < (w1.alloc (.cells #[Value.string (rhOf text).1,Value.string (rhOf text).2] 29)).heap.size:=by simp
 cases ho : rhOk text
 ·have HQ : Hid (folwOf (who,is,fs,nx) text = ((who,is,fs,nx),wNo)):=Lib.hid (by unfold folwOf; rw [if_neg (by rw [ho]; simp)])
  have a0:=(show _ = some (Value.string who.1) from oB2.cell rfl (j:=0) (by omega))
  have a1:=(show _ = some (Value.string who.2) from oB2.cell rfl (j:=1) (by omega))
  have a2:=(show _ = some (Value.slice I is.length ci) from oB2.cell rfl (j:=2) (by omega))
  have a3:=(show _ = some (Value.slice F fs.length cf) from oB2.cell rfl (j:=3) (by omega))
  have a4:=(show _ = some (Value.int .i64 nx) from oB2.cell rfl (j:=4) (by omega))
  have r0:=(show _ = some (Value.string { data:=#[] }) from oR2.cell rfl (j:=0) (by omega))
  have rf0:=oR2.frozen rfl 0
  have r1:=(show _ = some (Value.string { data:=#[] }) from oR2.cell rfl (j:=1) (by omega))
  have rf1:=oR2.frozen rfl 1
  have r2:=(show _ = some (Value.slice none 0 0) from oR2.cell rfl (j:=2) (by omega))
  have rf2:=oR2.frozen rfl 2
  have r3:=(show _ = some (Value.slice none 0 0) from oR2.cell rfl (j:=3) (by omega))
  have rf3:=oR2.frozen rfl 3
  have r4:=(show _ = some (Value.int .i64 0) from oR2.cell rfl (j:=4) (by omega))
  have rf4:=oR2.frozen rfl 4
  clear ho
  go_upto_region 3 with fail
  generalize (w1.alloc (.cells #[Value.string (rhOf text).1,Value.string (rhOf text).2] 29)) = w2 at *
  go_wp2_with fail
  refine bodyPost_ret (v:=.tuple #[.agg #[Value.string who.1,Value.string who.2,Value.slice I is.length ci,Value.slice F fs.length cf,Value.int .i64 nx],.string { data:=#[110,111] }]) ?_ rfl ?_
  ·simp [results,Tryz.results51,go_sem,r0,r1,r2,r3,r4]
  ·rw [HQ.out]
   exact ⟨I,ci,F,cf,rfl,(own_setN (own_setN (own_setN (own_setN (own_setN hI2 (w.heap.size + 1) 0 (Value.string who.1) hNI) (w.heap.size + 1) 1 (Value.string who.2) hNI) (w.heap.size + 1) 2 (Value.slice I is.length ci) hNI) (w.heap.size + 1) 3 (Value.slice F fs.length cf) hNI) (w.heap.size + 1) 4 (Value.int .i64 nx) hNI),(own_setN (own_setN (own_setN (own_setN (own_setN hF2 (w.heap.size + 1) 0 (Value.string who.1) hNF) (w.heap.size + 1) 1 (Value.string who.2) hNF) (w.heap.size + 1) 2 (Value.slice I is.length ci) hNF) (w.heap.size + 1) 3 (Value.slice F fs.length cf) hNF) (w.heap.size + 1) 4 (Value.int .i64 nx) hNF),(((((k2.setCell (p:=⟨w.heap.size + 1,0,none⟩) (by show w.heap.size ≤ w.heap.size + 1; omega) (Value.string who.1)).setCell (p:=⟨w.heap.size + 1,1,none⟩) (by show w.heap.size ≤ w.heap.size + 1; omega) (Value.string who.2)).setCell (p:=⟨w.heap.size + 1,2,none⟩) (by show w.heap.size ≤ w.heap.size + 1; omega) (Value.slice I is.length ci)).setCell (p:=⟨w.heap.size + 1,3,none⟩) (by show w.heap.size ≤ w.heap.size + 1; omega) (Value.slice F fs.length cf)).setCell (p:=⟨w.heap.size + 1,4,none⟩) (by show w.heap.size ≤ w.heap.size + 1; omega) (Value.int .i64 nx))⟩
 ·obtain ⟨⟨_,hz1⟩,_,hz2⟩:=hv_sizes (rhOf_hv ho)
  have HPQ : Hid (folwOf (who,is,fs,nx) text = if folOk fs (rhOf text) = true then ((who,is,folOf fs (rhOf text),nx),wOk) else ((who,is,fs,nx),wNo)):=Lib.hid (by unfold folwOf; rw [if_pos ho])
  clear ho
  generalize rhOf text = x at *
  have hx1 : x.1.size ≤ maxLen:=by unfold maxLen; omega
  have hx2 : x.2.size ≤ maxLen:=by unfold maxLen; omega
  have a0:=(show _ = some (Value.string who.1) from oB2.cell rfl (j:=0) (by omega))
  have a1:=(show _ = some (Value.string who.2) from oB2.cell rfl (j:=1) (by omega))
  have a2:=(show _ = some (Value.slice I is.length ci) from oB2.cell rfl (j:=2) (by omega))
  have a3:=(show _ = some (Value.slice F fs.length cf) from oB2.cell rfl (j:=3) (by omega))
  have a4:=(show _ = some (Value.int .i64 nx) from oB2.cell rfl (j:=4) (by omega))
  go_upto_region 4 with fail
  generalize (w1.alloc (.cells #[Value.string x.1,Value.string x.2] 29)) = w2 at *
  go_wp2_with fail
  refine (implFollow_any F cf w2.heap.size fs x w2 (OwnE.rd hF2) (Nat.le_refl _) (by omega) (Own.shp hF2) (fv_sz HF.out) ⟨hx1,hx2⟩).mono ?_
  rintro e w3 ⟨R,cR,rfl,oF,b3⟩
  have k3:=k2.trans (b3.mono k2.size)
  have oB3:=Own.below oB2 b3
  have oR3:=Own.below oR2 b3
  have hI3:=Own.below hI2 b3
  have hF3:=Own.below hF2 b3
  have oF3:=Own.more (base':=base) oF (Nat.le_trans hb k2.size)
  clear a0 a1 a2 a3 a4
  cases ho : folOk fs x
  ·have HQ : Hid (folwOf (who,is,fs,nx) text = ((who,is,fs,nx),wNo)):=Lib.hid (by rw [HPQ.out,if_neg (by rw [ho]; simp)])
   clear ho
   have a0:=(show _ = some (Value.string who.1) from oB3.cell rfl (j:=0) (by omega))
   have a1:=(show _ = some (Value.string who.2) from oB3.cell rfl (j:=1) (by omega))
   have a2:=(show _ = some (Value.slice I is.length ci) from oB3.cell rfl (j:=2) (by omega))
   have a3:=(show _ = some (Value.slice F fs.length cf) from oB3.cell rfl (j:=3) (by omega))
   have a4:=(show _ = some (Value.int .i64 nx) from oB3.cell rfl (j:=4) (by omega))
   have r0:=(show _ = some (Value.string { data:=#[] }) from oR3.cell rfl (j:=0) (by omega))
   have rf0:=oR3.frozen rfl 0
   have r1:=(show _ = some (Value.string { data:=#[] }) from oR3.cell rfl (j:=1) (by omega))
   have rf1:=oR3.frozen rfl 1
   have r2:=(show _ = some (Value.slice none 0 0) from oR3.cell rfl (j:=2) (by omega))
   have rf2:=oR3.frozen rfl 2
   have r3:=(show _ = some (Value.slice none 0 0) from oR3.cell rfl (j:=3) (by omega))
   have rf3:=oR3.frozen rfl 3
   have r4:=(show _ = some (Value.int .i64 0) from oR3.cell rfl (j:=4) (by omega))
   have rf4:=oR3.frozen rfl 4
   go_wp2_with fail
   refine bodyPost_ret (v:=.tuple #[.agg #[Value.string who.1,Value.string who.2,Value.slice I is.length ci,Value.slice F fs.length cf,Value.int .i64 nx],.string { data:=#[110,111] }]) ?_ rfl ?_
   ·simp [results,Tryz.results51,go_sem,r0,r1,r2,r3,r4]
   ·rw [HQ.out]
    exact ⟨I,ci,F,cf,rfl,(own_setN (own_setN (own_setN (own_setN (own_setN hI3 (w.heap.size + 1) 0 (Value.string who.1) hNI) (w.heap.size + 1) 1 (Value.string who.2) hNI) (w.heap.size + 1) 2 (Value.slice I is.length ci) hNI) (w.heap.size + 1) 3 (Value.slice F fs.length cf) hNI) (w.heap.size + 1) 4 (Value.int .i64 nx) hNI),(own_setN (own_setN (own_setN (own_setN (own_setN hF3 (w.heap.size + 1) 0 (Value.string who.1) hNF) (w.heap.size + 1) 1 (Value.string who.2) hNF) (w.heap.size + 1) 2 (Value.slice I is.length ci) hNF) (w.heap.size + 1) 3 (Value.slice F fs.length cf) hNF) (w.heap.size + 1) 4 (Value.int .i64 nx) hNF),(((((k3.setCell (p:=⟨w.heap.size + 1,0,none⟩) (by show w.heap.size ≤ w.heap.size + 1; omega) (Value.string who.1)).setCell (p:=⟨w.heap.size + 1,1,none⟩) (by show w.heap.size ≤ w.heap.size + 1; omega) (Value.string who.2)).setCell (p:=⟨w.heap.size + 1,2,none⟩) (by show w.heap.size ≤ w.heap.size + 1; omega) (Value.slice I is.length ci)).setCell (p:=⟨w.heap.size + 1,3,none⟩) (by show w.heap.size ≤ w.heap.size + 1; omega) (Value.slice F fs.length cf)).setCell (p:=⟨w.heap.size + 1,4,none⟩) (by show w.heap.size ≤ w.heap.size + 1; omega) (Value.int .i64 nx))⟩
  ·have HQ : Hid (folwOf (who,is,fs,nx) text = ((who,is,folOf fs x,nx),wOk)):=Lib.hid (by rw [HPQ.out,if_pos ho])
   clear ho
   generalize folOf fs x = gs at *
   have fz3:=oB3.frozen rfl 3
   have sB:=Own.set oB3 rfl (j:=3) (Value.slice R gs.length cR)
   have hNR : ∀ b,blk R = some b → b ≠ w.heap.size:=fun b hb => by have:=(Own.lt oF hb).1; have:=k2.size; omega
   have hNR : ∀ b,blk R = some b → b ≠ w.heap.size:=fun b hb e => own_ne oF oB3 (by decide) b hb (by rw [e]; rfl)
   have hNR1 : ∀ b,blk R = some b → b ≠ w.heap.size + 1:=fun b hb e => own_ne oF oR3 (by decide) b hb (by rw [e]; rfl)
   have hI4:=own_setN hI3 w.heap.size 3 (Value.slice R gs.length cR) (fun b hb => by have:=(Own.lt hI hb).2; omega)
   have oF4:=own_setN oF3 w.heap.size 3 (Value.slice R gs.length cR) hNR
   have k4:=k3.setCell (p:=⟨w.heap.size,3,none⟩) (Nat.le_refl _) (Value.slice R gs.length cR)
   have oB4:=sB.1
   have oR4:=own_setN oR3 w.heap.size 3 (Value.slice R gs.length cR) (fun b hb => by simp [blk] at hb; omega)
   have a0:=(show _ = some (Value.string who.1) from oB3.cell rfl (j:=0) (by omega))
   have a1:=(show _ = some (Value.string who.2) from oB3.cell rfl (j:=1) (by omega))
   have a2:=(show _ = some (Value.slice I is.length ci) from oB3.cell rfl (j:=2) (by omega))
   have a3:=(show _ = some (Value.slice F fs.length cf) from oB3.cell rfl (j:=3) (by omega))
   have a4:=(show _ = some (Value.int .i64 nx) from oB3.cell rfl (j:=4) (by omega))
   go_upto_region 8 with fail
   clear a0 a1 a2 a3 a4
   generalize (w3.setCell ⟨w.heap.size,3,none⟩ (Value.slice R gs.length cR)) = w4 at *
   have a0:=(show _ = some (Value.string who.1) from oB4.cell rfl (j:=0) (by omega))
   have a1:=(show _ = some (Value.string who.2) from oB4.cell rfl (j:=1) (by omega))
   have a2:=(show _ = some (Value.slice I is.length ci) from oB4.cell rfl (j:=2) (by omega))
   have a3:=(show _ = some (Value.slice R gs.length cR) from oB4.cell rfl (j:=3) (by omega))
   have a4:=(show _ = some (Value.int .i64 nx) from oB4.cell rfl (j:=4) (by omega))
   have r0:=(show _ = some (Value.string { data:=#[] }) from oR4.cell rfl (j:=0) (by omega))
   have rf0:=oR4.frozen rfl 0
   have r1:=(show _ = some (Value.string { data:=#[] }) from oR4.cell rfl (j:=1) (by omega))
   have rf1:=oR4.frozen rfl 1
   have r2:=(show _ = some (Value.slice none 0 0) from oR4.cell rfl (j:=2) (by omega))
   have rf2:=oR4.frozen rfl 2
   have r3:=(show _ = some (Value.slice none 0 0) from oR4.cell rfl (j:=3) (by omega))
   have rf3:=oR4.frozen rfl 3
   have r4:=(show _ = some (Value.int .i64 0) from oR4.cell rfl (j:=4) (by omega))
   have rf4:=oR4.frozen rfl 4
   go_wp2_with fail
   refine bodyPost_ret (v:=.tuple #[.agg #[Value.string who.1,Value.string who.2,Value.slice I is.length ci,Value.slice R gs.length cR,Value.int .i64 nx],.string { data:=#[111,107] }]) ?_ rfl ?_
   ·simp [results,Tryz.results51,go_sem,r0,r1,r2,r3,r4]
   ·rw [HQ.out]
    exact ⟨I,ci,R,cR,rfl,(own_setN (own_setN (own_setN (own_setN (own_setN hI4 (w.heap.size + 1) 0 (Value.string who.1) hNI) (w.heap.size + 1) 1 (Value.string who.2) hNI) (w.heap.size + 1) 2 (Value.slice I is.length ci) hNI) (w.heap.size + 1) 3 (Value.slice R gs.length cR) hNI) (w.heap.size + 1) 4 (Value.int .i64 nx) hNI),(own_setN (own_setN (own_setN (own_setN (own_setN oF4 (w.heap.size + 1) 0 (Value.string who.1) hNR1) (w.heap.size + 1) 1 (Value.string who.2) hNR1) (w.heap.size + 1) 2 (Value.slice I is.length ci) hNR1) (w.heap.size + 1) 3 (Value.slice R gs.length cR) hNR1) (w.heap.size + 1) 4 (Value.int .i64 nx) hNR1),(((((k4.setCell (p:=⟨w.heap.size + 1,0,none⟩) (by show w.heap.size ≤ w.heap.size + 1; omega) (Value.string who.1)).setCell (p:=⟨w.heap.size + 1,1,none⟩) (by show w.heap.size ≤ w.heap.size + 1; omega) (Value.string who.2)).setCell (p:=⟨w.heap.size + 1,2,none⟩) (by show w.heap.size ≤ w.heap.size + 1; omega) (Value.slice I is.length ci)).setCell (p:=⟨w.heap.size + 1,3,none⟩) (by show w.heap.size ≤ w.heap.size + 1; omega) (Value.slice R gs.length cR)).setCell (p:=⟨w.heap.size + 1,4,none⟩) (by show w.heap.size ≤ w.heap.size + 1; omega) (Value.int .i64 nx))⟩
set_option maxHeartbeats 3200000 in
theorem changeFansU_any (text : ByteArray) (who : ElHandle) (is : List ElItem) (fs : List ElHandle) (nx : Int) (I : Option Addr) (ci : Nat) (F : Option Addr) (cf base : Nat) (w : World) (hI : OwnE 4 encItem 69 w base I ci is) (hF : OwnE 2 encHandle 29 w base F cf fs) (hb : base ≤ w.heap.size) (hv : brB who is fs nx = true) (hs : text.size ≤ maxLen) :
    Calls Tryz.prog 51 #[.agg #[Value.string who.1,Value.string who.2,Value.slice I is.length ci,Value.slice F fs.length cf,Value.int .i64 nx],.string text,.func (.func 53) #[] #[]] w (OutBl base (leavOf (who,is,fs,nx) text) w):=by
 have zw : (w.alloc (.cells #[Value.string who.1,Value.string who.2,Value.slice I is.length ci,Value.slice F fs.length cf,Value.int .i64 nx] 33)).heap.size = w.heap.size + 1:=by simp
 have hbA : Below w.heap.size w ((w.alloc (.cells #[Value.string who.1,Value.string who.2,Value.slice I is.length ci,Value.slice F fs.length cf,Value.int .i64 nx] 33)).alloc (.cells #[Value.string { data:=#[] },Value.string { data:=#[] },Value.slice none 0 0,Value.slice none 0 0,Value.int .i64 0] 33)):=((Below.refl _ _).alloc (Nat.le_refl _) _).alloc (by simp) _
 have zA : ((w.alloc (.cells #[Value.string who.1,Value.string who.2,Value.slice I is.length ci,Value.slice F fs.length cf,Value.int .i64 nx] 33)).alloc (.cells #[Value.string { data:=#[] },Value.string { data:=#[] },Value.slice none 0 0,Value.slice none 0 0,Value.int .i64 0] 33)).heap.size = w.heap.size + 2:=by simp
 have oB : Own ((w.alloc (.cells #[Value.string who.1,Value.string who.2,Value.slice I is.length ci,Value.slice F fs.length cf,Value.int .i64 nx] 33)).alloc (.cells #[Value.string { data:=#[] },Value.string { data:=#[] },Value.slice none 0 0,Value.slice none 0 0,Value.int .i64 0] 33)) w.heap.size 33 5 (some ⟨w.heap.size,0,none⟩) 1 1 (bxC who I is.length ci F fs.length cf nx):=Own.below (Own.lit w 33 5 1 #[Value.string who.1,Value.string who.2,Value.slice I is.length ci,Value.slice F fs.length cf,Value.int .i64 nx] (bxC who I is.length ci F fs.length cf nx) (by simp only [maxLen]; omega) rfl) ((Below.refl _ _).alloc (Nat.le_refl _) _)
 have oR : Own ((w.alloc (.cells #[Value.string who.1,Value.string who.2,Value.slice I is.length ci,Value.slice F fs.length cf,Value.int .i64 nx] 33)).alloc (.cells #[Value.string { data:=#[] },Value.string { data:=#[] },Value.slice none 0 0,Value.slice none 0 0,Value.int .i64 0] 33)) (w.heap.size + 1) 33 5 (some ⟨w.heap.size + 1,0,none⟩) 1 1 zBr':=by
  have:=Own.lit (w.alloc (.cells #[Value.string who.1,Value.string who.2,Value.slice I is.length ci,Value.slice F fs.length cf,Value.int .i64 nx] 33)) 33 5 1 #[Value.string { data:=#[] },Value.string { data:=#[] },Value.slice none 0 0,Value.slice none 0 0,Value.int .i64 0] zBr' (by simp only [maxLen]; omega) rfl
  rw [zw] at this
  exact this
 clear zw
 have HB:=Lib.hid hv
 obtain ⟨hw,hi,hf,hn⟩:=brB_of hv
 have hi8:=fd_len hi
 have hf10:=(Fv.of hf).1
 have HI:=Lib.hid hi
 have HF:=Lib.hid hf
 clear hw hi hf hn hv
 have hIA:=Own.below hI hbA
 have hNI : ∀ b,blk I = some b → b ≠ w.heap.size + 1:=fun b hb => by have:=(Own.lt hI hb).2; omega
 have hFA:=Own.below hF hbA
 have hNF : ∀ b,blk F = some b → b ≠ w.heap.size + 1:=fun b hb => by have:=(Own.lt hF hb).2; omega
 go_enter Tryz.func51,Tryz.ntmps51
 go_wp2_with fail
 generalize ((w.alloc (.cells #[Value.string who.1,Value.string who.2,Value.slice I is.length ci,Value.slice F fs.length cf,Value.int .i64 nx] 33)).alloc (.cells #[Value.string { data:=#[] },Value.string { data:=#[] },Value.slice none 0 0,Value.slice none 0 0,Value.int .i64 0] 33)) = wA at *
 refine (implReadHandle_any text wA hs).mono ?_
 rintro e w1 ⟨rfl,b1⟩
 have k1:=hbA.trans (b1.mono hbA.size)
 have hI1:=Own.below hIA b1
 have hF1:=Own.below hFA b1
 have oB1:=Own.below oB b1
 have oR1:=Own.below oR b1
 have z1 : w.heap.size + 1 < w1.heap.size:=by have:=b1.size; omega
 have b12 : Below w1.heap.size w1 (w1.alloc (.cells #[Value.string (rhOf text).1,Value.string (rhOf text).2] 29)):=(Below.refl _ _).alloc (Nat.le_refl _) _
 have k2:=k1.trans (b12.mono k1.size)
 have oB2:=Own.below oB1 b12
 have oR2:=Own.below oR1 b12
 have hI2:=Own.below hI1 b12
 have hF2:=Own.below hF1 b12
 have x0 : (w1.alloc (.cells #[Value.string (rhOf text).1,Value.string (rhOf text).2] 29)).cell? ⟨w1.heap.size,0,none⟩ = some (Value.string (rhOf text).1):=by rw [World.cell?_alloc_at _ _ _ _ rfl]; rfl
 have x1 : (w1.alloc (.cells #[Value.string (rhOf text).1,Value.string (rhOf text).2] 29)).cell? ⟨w1.heap.size,1,none⟩ = some (Value.string (rhOf text).2):=by rw [World.cell?_alloc_at _ _ _ _ rfl]; rfl
 have zX : w1.heap.size < (w1.alloc (.cells #[Value.string (rhOf text).1,Value.string (rhOf text).2] 29)).heap.size:=by simp
 cases ho : rhOk text
 ·have HQ : Hid (leavOf (who,is,fs,nx) text = ((who,is,fs,nx),wNo)):=Lib.hid (by unfold leavOf; rw [if_neg (by rw [ho]; simp)])
  have a0:=(show _ = some (Value.string who.1) from oB2.cell rfl (j:=0) (by omega))
  have a1:=(show _ = some (Value.string who.2) from oB2.cell rfl (j:=1) (by omega))
  have a2:=(show _ = some (Value.slice I is.length ci) from oB2.cell rfl (j:=2) (by omega))
  have a3:=(show _ = some (Value.slice F fs.length cf) from oB2.cell rfl (j:=3) (by omega))
  have a4:=(show _ = some (Value.int .i64 nx) from oB2.cell rfl (j:=4) (by omega))
  have r0:=(show _ = some (Value.string { data:=#[] }) from oR2.cell rfl (j:=0) (by omega))
  have rf0:=oR2.frozen rfl 0
  have r1:=(show _ = some (Value.string { data:=#[] }) from oR2.cell rfl (j:=1) (by omega))
  have rf1:=oR2.frozen rfl 1
  have r2:=(show _ = some (Value.slice none 0 0) from oR2.cell rfl (j:=2) (by omega))
  have rf2:=oR2.frozen rfl 2
  have r3:=(show _ = some (Value.slice none 0 0) from oR2.cell rfl (j:=3) (by omega))
  have rf3:=oR2.frozen rfl 3
  have r4:=(show _ = some (Value.int .i64 0) from oR2.cell rfl (j:=4) (by omega))
  have rf4:=oR2.frozen rfl 4
  clear ho
  go_upto_region 3 with fail
  generalize (w1.alloc (.cells #[Value.string (rhOf text).1,Value.string (rhOf text).2] 29)) = w2 at *
  go_wp2_with fail
  refine bodyPost_ret (v:=.tuple #[.agg #[Value.string who.1,Value.string who.2,Value.slice I is.length ci,Value.slice F fs.length cf,Value.int .i64 nx],.string { data:=#[110,111] }]) ?_ rfl ?_
  ·simp [results,Tryz.results51,go_sem,r0,r1,r2,r3,r4]
  ·rw [HQ.out]
   exact ⟨I,ci,F,cf,rfl,(own_setN (own_setN (own_setN (own_setN (own_setN hI2 (w.heap.size + 1) 0 (Value.string who.1) hNI) (w.heap.size + 1) 1 (Value.string who.2) hNI) (w.heap.size + 1) 2 (Value.slice I is.length ci) hNI) (w.heap.size + 1) 3 (Value.slice F fs.length cf) hNI) (w.heap.size + 1) 4 (Value.int .i64 nx) hNI),(own_setN (own_setN (own_setN (own_setN (own_setN hF2 (w.heap.size + 1) 0 (Value.string who.1) hNF) (w.heap.size + 1) 1 (Value.string who.2) hNF) (w.heap.size + 1) 2 (Value.slice I is.length ci) hNF) (w.heap.size + 1) 3 (Value.slice F fs.length cf) hNF) (w.heap.size + 1) 4 (Value.int .i64 nx) hNF),(((((k2.setCell (p:=⟨w.heap.size + 1,0,none⟩) (by show w.heap.size ≤ w.heap.size + 1; omega) (Value.string who.1)).setCell (p:=⟨w.heap.size + 1,1,none⟩) (by show w.heap.size ≤ w.heap.size + 1; omega) (Value.string who.2)).setCell (p:=⟨w.heap.size + 1,2,none⟩) (by show w.heap.size ≤ w.heap.size + 1; omega) (Value.slice I is.length ci)).setCell (p:=⟨w.heap.size + 1,3,none⟩) (by show w.heap.size ≤ w.heap.size + 1; omega) (Value.slice F fs.length cf)).setCell (p:=⟨w.heap.size + 1,4,none⟩) (by show w.heap.size ≤ w.heap.size + 1; omega) (Value.int .i64 nx))⟩
 ·obtain ⟨⟨_,hz1⟩,_,hz2⟩:=hv_sizes (rhOf_hv ho)
  have HPQ : Hid (leavOf (who,is,fs,nx) text = if ufOk fs (rhOf text) = true then ((who,is,ufOf fs (rhOf text),nx),wOk) else ((who,is,fs,nx),wNo)):=Lib.hid (by unfold leavOf; rw [if_pos ho])
  clear ho
  generalize rhOf text = x at *
  have hx1 : x.1.size ≤ maxLen:=by unfold maxLen; omega
  have hx2 : x.2.size ≤ maxLen:=by unfold maxLen; omega
  have a0:=(show _ = some (Value.string who.1) from oB2.cell rfl (j:=0) (by omega))
  have a1:=(show _ = some (Value.string who.2) from oB2.cell rfl (j:=1) (by omega))
  have a2:=(show _ = some (Value.slice I is.length ci) from oB2.cell rfl (j:=2) (by omega))
  have a3:=(show _ = some (Value.slice F fs.length cf) from oB2.cell rfl (j:=3) (by omega))
  have a4:=(show _ = some (Value.int .i64 nx) from oB2.cell rfl (j:=4) (by omega))
  go_upto_region 4 with fail
  generalize (w1.alloc (.cells #[Value.string x.1,Value.string x.2] 29)) = w2 at *
  go_wp2_with fail
  refine (implUnfollow_any F cf w2.heap.size fs x w2 (OwnE.rd hF2) (Nat.le_refl _) (Own.shp hF2) HF.out).mono ?_
  rintro e w3 ⟨R,cR,rfl,oF,b3⟩
  have k3:=k2.trans (b3.mono k2.size)
  have oB3:=Own.below oB2 b3
  have oR3:=Own.below oR2 b3
  have hI3:=Own.below hI2 b3
  have hF3:=Own.below hF2 b3
  have oF3:=Own.more (base':=base) oF (Nat.le_trans hb k2.size)
  clear a0 a1 a2 a3 a4
  cases ho : ufOk fs x
  ·have HQ : Hid (leavOf (who,is,fs,nx) text = ((who,is,fs,nx),wNo)):=Lib.hid (by rw [HPQ.out,if_neg (by rw [ho]; simp)])
   clear ho
   have a0:=(show _ = some (Value.string who.1) from oB3.cell rfl (j:=0) (by omega))
   have a1:=(show _ = some (Value.string who.2) from oB3.cell rfl (j:=1) (by omega))
   have a2:=(show _ = some (Value.slice I is.length ci) from oB3.cell rfl (j:=2) (by omega))
   have a3:=(show _ = some (Value.slice F fs.length cf) from oB3.cell rfl (j:=3) (by omega))
   have a4:=(show _ = some (Value.int .i64 nx) from oB3.cell rfl (j:=4) (by omega))
   have r0:=(show _ = some (Value.string { data:=#[] }) from oR3.cell rfl (j:=0) (by omega))
   have rf0:=oR3.frozen rfl 0
   have r1:=(show _ = some (Value.string { data:=#[] }) from oR3.cell rfl (j:=1) (by omega))
   have rf1:=oR3.frozen rfl 1
   have r2:=(show _ = some (Value.slice none 0 0) from oR3.cell rfl (j:=2) (by omega))
   have rf2:=oR3.frozen rfl 2
   have r3:=(show _ = some (Value.slice none 0 0) from oR3.cell rfl (j:=3) (by omega))
   have rf3:=oR3.frozen rfl 3
   have r4:=(show _ = some (Value.int .i64 0) from oR3.cell rfl (j:=4) (by omega))
   have rf4:=oR3.frozen rfl 4
   go_wp2_with fail
   refine bodyPost_ret (v:=.tuple #[.agg #[Value.string who.1,Value.string who.2,Value.slice I is.length ci,Value.slice F fs.length cf,Value.int .i64 nx],.string { data:=#[110,111] }]) ?_ rfl ?_
   ·simp [results,Tryz.results51,go_sem,r0,r1,r2,r3,r4]
   ·rw [HQ.out]
    exact ⟨I,ci,F,cf,rfl,(own_setN (own_setN (own_setN (own_setN (own_setN hI3 (w.heap.size + 1) 0 (Value.string who.1) hNI) (w.heap.size + 1) 1 (Value.string who.2) hNI) (w.heap.size + 1) 2 (Value.slice I is.length ci) hNI) (w.heap.size + 1) 3 (Value.slice F fs.length cf) hNI) (w.heap.size + 1) 4 (Value.int .i64 nx) hNI),(own_setN (own_setN (own_setN (own_setN (own_setN hF3 (w.heap.size + 1) 0 (Value.string who.1) hNF) (w.heap.size + 1) 1 (Value.string who.2) hNF) (w.heap.size + 1) 2 (Value.slice I is.length ci) hNF) (w.heap.size + 1) 3 (Value.slice F fs.length cf) hNF) (w.heap.size + 1) 4 (Value.int .i64 nx) hNF),(((((k3.setCell (p:=⟨w.heap.size + 1,0,none⟩) (by show w.heap.size ≤ w.heap.size + 1; omega) (Value.string who.1)).setCell (p:=⟨w.heap.size + 1,1,none⟩) (by show w.heap.size ≤ w.heap.size + 1; omega) (Value.string who.2)).setCell (p:=⟨w.heap.size + 1,2,none⟩) (by show w.heap.size ≤ w.heap.size + 1; omega) (Value.slice I is.length ci)).setCell (p:=⟨w.heap.size + 1,3,none⟩) (by show w.heap.size ≤ w.heap.size + 1; omega) (Value.slice F fs.length cf)).setCell (p:=⟨w.heap.size + 1,4,none⟩) (by show w.heap.size ≤ w.heap.size + 1; omega) (Value.int .i64 nx))⟩
  ·have HQ : Hid (leavOf (who,is,fs,nx) text = ((who,is,ufOf fs x,nx),wOk)):=Lib.hid (by rw [HPQ.out,if_pos ho])
   clear ho
   generalize ufOf fs x = gs at *
   have fz3:=oB3.frozen rfl 3
   have sB:=Own.set oB3 rfl (j:=3) (Value.slice R gs.length cR)
   have hNR : ∀ b,blk R = some b → b ≠ w.heap.size:=fun b hb => by have:=(Own.lt oF hb).1; have:=k2.size; omega
   have hNR : ∀ b,blk R = some b → b ≠ w.heap.size:=fun b hb e => own_ne oF oB3 (by decide) b hb (by rw [e]; rfl)
   have hNR1 : ∀ b,blk R = some b → b ≠ w.heap.size + 1:=fun b hb e => own_ne oF oR3 (by decide) b hb (by rw [e]; rfl)
   have hI4:=own_setN hI3 w.heap.size 3 (Value.slice R gs.length cR) (fun b hb => by have:=(Own.lt hI hb).2; omega)
   have oF4:=own_setN oF3 w.heap.size 3 (Value.slice R gs.length cR) hNR
   have k4:=k3.setCell (p:=⟨w.heap.size,3,none⟩) (Nat.le_refl _) (Value.slice R gs.length cR)
   have oB4:=sB.1
   have oR4:=own_setN oR3 w.heap.size 3 (Value.slice R gs.length cR) (fun b hb => by simp [blk] at hb; omega)
   have a0:=(show _ = some (Value.string who.1) from oB3.cell rfl (j:=0) (by omega))
   have a1:=(show _ = some (Value.string who.2) from oB3.cell rfl (j:=1) (by omega))
   have a2:=(show _ = some (Value.slice I is.length ci) from oB3.cell rfl (j:=2) (by omega))
   have a3:=(show _ = some (Value.slice F fs.length cf) from oB3.cell rfl (j:=3) (by omega))
   have a4:=(show _ = some (Value.int .i64 nx) from oB3.cell rfl (j:=4) (by omega))
   go_upto_region 8 with fail
   clear a0 a1 a2 a3 a4
   generalize (w3.setCell ⟨w.heap.size,3,none⟩ (Value.slice R gs.length cR)) = w4 at *
   have a0:=(show _ = some (Value.string who.1) from oB4.cell rfl (j:=0) (by omega))
   have a1:=(show _ = some (Value.string who.2) from oB4.cell rfl (j:=1) (by omega))
   have a2:=(show _ = some (Value.slice I is.length ci) from oB4.cell rfl (j:=2) (by omega))
   have a3:=(show _ = some (Value.slice R gs.length cR) from oB4.cell rfl (j:=3) (by omega))
   have a4:=(show _ = some (Value.int .i64 nx) from oB4.cell rfl (j:=4) (by omega))
   have r0:=(show _ = some (Value.string { data:=#[] }) from oR4.cell rfl (j:=0) (by omega))
   have rf0:=oR4.frozen rfl 0
   have r1:=(show _ = some (Value.string { data:=#[] }) from oR4.cell rfl (j:=1) (by omega))
   have rf1:=oR4.frozen rfl 1
   have r2:=(show _ = some (Value.slice none 0 0) from oR4.cell rfl (j:=2) (by omega))
   have rf2:=oR4.frozen rfl 2
   have r3:=(show _ = some (Value.slice none 0 0) from oR4.cell rfl (j:=3) (by omega))
   have rf3:=oR4.frozen rfl 3
   have r4:=(show _ = some (Value.int .i64 0) from oR4.cell rfl (j:=4) (by omega))
   have rf4:=oR4.frozen rfl 4
   go_wp2_with fail
   refine bodyPost_ret (v:=.tuple #[.agg #[Value.string who.1,Value.string who.2,Value.slice I is.length ci,Value.slice R gs.length cR,Value.int .i64 nx],.string { data:=#[111,107] }]) ?_ rfl ?_
   ·simp [results,Tryz.results51,go_sem,r0,r1,r2,r3,r4]
   ·rw [HQ.out]
    exact ⟨I,ci,R,cR,rfl,(own_setN (own_setN (own_setN (own_setN (own_setN hI4 (w.heap.size + 1) 0 (Value.string who.1) hNI) (w.heap.size + 1) 1 (Value.string who.2) hNI) (w.heap.size + 1) 2 (Value.slice I is.length ci) hNI) (w.heap.size + 1) 3 (Value.slice R gs.length cR) hNI) (w.heap.size + 1) 4 (Value.int .i64 nx) hNI),(own_setN (own_setN (own_setN (own_setN (own_setN oF4 (w.heap.size + 1) 0 (Value.string who.1) hNR1) (w.heap.size + 1) 1 (Value.string who.2) hNR1) (w.heap.size + 1) 2 (Value.slice I is.length ci) hNR1) (w.heap.size + 1) 3 (Value.slice R gs.length cR) hNR1) (w.heap.size + 1) 4 (Value.int .i64 nx) hNR1),(((((k4.setCell (p:=⟨w.heap.size + 1,0,none⟩) (by show w.heap.size ≤ w.heap.size + 1; omega) (Value.string who.1)).setCell (p:=⟨w.heap.size + 1,1,none⟩) (by show w.heap.size ≤ w.heap.size + 1; omega) (Value.string who.2)).setCell (p:=⟨w.heap.size + 1,2,none⟩) (by show w.heap.size ≤ w.heap.size + 1; omega) (Value.slice I is.length ci)).setCell (p:=⟨w.heap.size + 1,3,none⟩) (by show w.heap.size ≤ w.heap.size + 1; omega) (Value.slice R gs.length cR)).setCell (p:=⟨w.heap.size + 1,4,none⟩) (by show w.heap.size ≤ w.heap.size + 1; omega) (Value.int .i64 nx))⟩
end Go.Proofs.YtfnmlffpnmmcdaaGreatDoor
namespace Go.Proofs.YtfnmlffpnmmcdaaGreatDoor
set_option maxRecDepth 100000
open Go.RowKit
set_option maxHeartbeats 1600000 in
theorem fansText_any (F : Option Addr) (cf B : Nat) (fs : List ElHandle) (w : World) (h : RdE 2 encHandle w B F fs) (hB : B ≤ w.heap.size) (hv : fvB fs = true) :
    Calls Tryz.prog 47 #[.slice F fs.length cf] w fun e w' => e = .returned (.string (ftOf fs)) ∧ Below w.heap.size w w':=by
 have h10:=(Fv.of hv).1
 have HZ:=Lib.hid (fv_sz hv)
 have HV:=Lib.hid hv
 clear hv
 by_cases h0 : fs.length = 0
 ·have e0 : ((fs.length : Int) == 0) = true:=by rw [h0]; rfl
  have HQ : Hid (ftOf fs = { data:=#[110,111,110,101] }):=Lib.hid (if_pos h0)
  clear h0
  go_enter Tryz.func47,Tryz.ntmps47
  go_wp2_with fail
  go_ret
  rw [HQ.out]
  exact ⟨rfl,Below.refl _ _⟩
 ·have e0 : ((fs.length : Int) == 0) = false:=by rw [beq_eq_false_iff_ne]; omega
  have HQ : Hid (ftOf fs = ftTo fs fs.length):=Lib.hid (if_neg h0)
  go_enter Tryz.func47,Tryz.ntmps47
  go_wp2_with fail
  go_loopw [3,11] (fun v i wr => ∃ (k : Nat) (R : Option Addr) (c : Nat) (cur : List ByteArray),k ≤ fs.length ∧ i = .int .i64 k ∧ v = .slice R cur.length c ∧ Hid (cur = (fs.take k).map htOf) ∧ cur.length ≤ k ∧ OwnE 1 encStr 9 wr w.heap.size R c cur ∧ Below w.heap.size w wr) (fun _ i _ => fs.length - (intOf i).toNat)
  case atStart => exact ⟨0,none,0,[],Nat.zero_le _,rfl,rfl,Lib.hid rfl,Nat.le_refl _,Own.nil _ _ _ _ _,Below.refl _ _⟩
  case round =>
   obtain ⟨k,R,c,cur,hk,rfl,rfl,hcur,hck,hown,hbl⟩:=hrel
   have hsz:=hbl.size
   by_cases hlt : k < fs.length
   ·obtain ⟨b,off,rfl,hb,hc⟩:=(h.below (hbl.mono hB)).at_ (by omega)
    have c0 : wr.cell? ⟨b,off + k * 2,none⟩ = some (Value.string (gt fs k).1):=hc k 0 (by omega) (by omega)
    have e1 : (wr.alloc (.cells #[Value.string (gt fs k).1,Value.string (gt fs k).2] 29)).cell? ⟨wr.heap.size,0,none⟩ = some (Value.string (gt fs k).1):=by rw [World.cell?_alloc_at _ _ _ _ rfl]; rfl
    have c1 : wr.cell? ⟨b,off + k * 2 + 1,none⟩ = some (Value.string (gt fs k).2):=hc k 1 (by omega) (by omega)
    have e2 : (wr.alloc (.cells #[Value.string (gt fs k).1,Value.string (gt fs k).2] 29)).cell? ⟨wr.heap.size,1,none⟩ = some (Value.string (gt fs k).2):=by rw [World.cell?_alloc_at _ _ _ _ rfl]; rfl
    have hownA:=Own.below hown ((Below.refl _ _).alloc (Nat.le_refl _) (.cells #[Value.string (gt fs k).1,Value.string (gt fs k).2] 29))
    have hblA:=hbl.alloc hsz (.cells #[Value.string (gt fs k).1,Value.string (gt fs k).2] 29)
    have HN : Hid ((fs.take (k + 1)).map htOf = (fs.take k).map htOf ++ [htOf (gt fs k)]):=Lib.hid (by rw [take_snoc hlt,List.map_append]; rfl)
    obtain ⟨m1,m2⟩:=HZ.out k hlt
    clear hc hown hbl
    go_wp2_with fail
    generalize (wr.alloc (.cells #[Value.string (gt fs k).1,Value.string (gt fs k).2] 29)) = wA at *
    refine (implHandleText_any (gt fs k).1 (gt fs k).2 wA m1 m2).mono ?_
    rintro e w3 ⟨rfl,b3⟩
    rw [show htOf ((gt fs k).1,(gt fs k).2) = htOf (gt fs k) from rfl]
    have hbl3:=hblA.trans (b3.mono hblA.size)
    have hs3:=hbl3.size
    have hown3:=Own.below hownA b3
    clear c0 c1 e1 e2 b3 hblA hownA m1 m2
    go_wp2_with (at_builtin; refine wpList_app rfl (.tmp 15) (.tmp 18) _ rfl w.heap.size 9 _ 1 16 Tryz.underlying51 info_String rfl (by omega) R (some ⟨w3.heap.size,0,none⟩) cur.length c 1 1 (w3.heap.size + 1) (cE 1 encStr cur) (encStr (htOf (gt fs k))) rfl rfl (Own.below hown3 ((Below.refl _ _).alloc (Nat.le_refl _) _)) (rd_elem _ _ _ _ (fun j hj => by rcases (by omega : j = 0) with rfl; rfl)) (fun _ _ => encStr_one _ _) (by simp only [maxLen]; omega) (by omega) (by first | omega | (simp; omega)) ?_; intro T1 cap1 w5 hown5 hg5)
    go_roundw
    case rel => exact ⟨k + 1,T1,cap1,cur ++ [htOf (gt fs k)],by omega,by go_num,by rw [List.length_append]; rfl,Lib.hid (by rw [HN.out,← hcur.out]),by rw [List.length_append]; simp; omega,OwnE.snoc (by omega) hown5,hbl3.trans (((Below.refl _ _).alloc hbl3.size _).trans (grown_below hg5 (fun b hb => (Own.lt hown3 hb).1) (by first | omega | (simp; omega))))⟩
    case measure => simp [intOf]; omega
   ·obtain rfl : k = fs.length:=by omega
    have hcm : cur = fs.map htOf:=by rw [hcur.out,List.take_length]
    have hcl : cur.length = fs.length:=by rw [hcm,List.length_map]
    obtain ⟨b,rfl⟩ : ∃ b,R = some ⟨b,0,none⟩:=by
     rcases Own.shape hown with ⟨_,h1,_⟩ | ⟨b,h1,_⟩
     ·omega
     ·exact ⟨b,h1⟩
    have hbz:=(Own.lt hown (b:=b) rfl).2
    have hcap : cur.length ≤ c:=by
     rcases hown.shp with ⟨h1,_⟩ | ⟨_,_,_,h1,_⟩
     ·cases h1
     ·exact h1
    have hcells : ∀ (j : Nat) x,cur[j]? = some x → wr.cell? ⟨b,0 + j,none⟩ = some (.string x):=fun j x hx => by
     have hj : j < cur.length:=(List.getElem?_eq_some_iff.1 hx).1
     have:=Own.cell hown rfl (j:=j) (by omega)
     unfold cE at this
     rw [Nat.div_one,show gt cur j = x by unfold gt; rw [hx]; rfl] at this
     rw [Nat.zero_add]; exact this
    have hj:=ftTo_join fs fs.length (by omega) (Nat.le_refl _)
    rw [List.take_length,← hcm] at hj
    have hft:=ftTo_size fs fs.length
    have hlen : (Lib.join (cur.map (·.data.toList)) ({ data:=#[32] } : ByteArray).data.toList).length ≤ 140737488355328:=by
     show (Lib.join (cur.map (·.data.toList)) [32]).length ≤ _
     rw [← hj]
     have : (ftTo fs fs.length).data.toList.length = (ftTo fs fs.length).size:=by simp
     omega
    have hcall:=Tryz.strings_Join b 0 c cur ({ data:=#[32] } : ByteArray) wr hcells hbz (by omega) hcap hlen
    have hres : (⟨(Lib.join (cur.map (·.data.toList)) ({ data:=#[32] } : ByteArray).data.toList).toArray⟩ : ByteArray) = ftTo fs fs.length:=by
     show (⟨(Lib.join (cur.map (·.data.toList)) [32]).toArray⟩ : ByteArray) = _
     rw [← hj]
    rw [hres] at hcall
    have HC:=Lib.hid hcall
    clear hcall hres hlen hft hj hcells hcur hcm hcl
    go_wp2_with fail
    refine HC.out.mono ?_
    rintro e w4 ⟨rfl,b4⟩
    go_wp2_with fail
    go_ret
    rw [HQ.out]
    exact ⟨rfl,hbl.trans (b4.mono hsz)⟩
end Go.Proofs.YtfnmlffpnmmcdaaGreatDoor
