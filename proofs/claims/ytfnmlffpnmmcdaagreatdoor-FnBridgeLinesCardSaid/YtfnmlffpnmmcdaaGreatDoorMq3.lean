/- Parts of the proof, merged: DayB DayA DayC DayD Mark Item ItemV RiPlain Handle HvPlain FollowPlain FolPlain FeedPlain HtPlain ChPlain UfPlain ActPlain HandleV FeedA FeedB FollowA. -/
import Derived.Test.YtfnmlffpnmmcdaaGreatDoorMq2
import Derived.Deep.QuietTactic
import Derived.BigQuiet
import Derived.Test.YtfnmlffpnmmcdaaGreatDoorMq1
import Derived.StillTailTactics
import Derived.Laws.BytesString
import Derived.Laws.Cells
import Derived.Deep.RegionHeld3
namespace Go.Proofs.YtfnmlffpnmmcdaaGreatDoor
set_option maxRecDepth 100000
open Go.RowKit
def DayT (d : Int) (s : ByteArray) : Prop:=if dayB d = true then ∃ y m r : Nat,Dy y m r ∧ dnOf y m r = d ∧ s = dtx y m r else s = { data:=#[] }
theorem dayT_no {d : Int} (h : dayB d = false) : DayT d { data:=#[] }:=by unfold DayT; rw [if_neg (by rw [h]; simp)]
theorem dayT_yes {d y m r : Int} {s : ByteArray} (hy : 0 ≤ y) (hm : 0 ≤ m) (hr : 0 ≤ r) (h : Dy y m r ∧ dnOf y m r = d) (hs : s = dtx y.toNat m.toNat r.toNat) : DayT d s:=by
 have hp:=dn_pos h.1;unfold DayT;rw [if_pos (dayB_yes (by rw [← h.2]; exact hp.1) (by rw [← h.2]; exact hp.2))];refine ⟨y.toNat,m.toNat,r.toNat,?_,?_,hs⟩
 ·rw [Int.toNat_of_nonneg hy,Int.toNat_of_nonneg hm,Int.toNat_of_nonneg hr]; exact h.1
 ·rw [Int.toNat_of_nonneg hy,Int.toNat_of_nonneg hm,Int.toNat_of_nonneg hr]; exact h.2
theorem dtx_snoc {s t : ByteArray} {k : Nat} {c : Int} (hs : s = t.extract 0 k) (hk : k < t.size) (hb : bb t k = c) (h0 : 0 ≤ c) (h1 : c ≤ 255) : s ++ { data:=#[UInt8.ofNat c.toNat] } = t.extract 0 (k + 1):=by
 have : t.extract k (k + 1) = { data:=#[UInt8.ofNat c.toNat] }:=ext_byte hk (by rw [UInt8.toNat_ofNat']; omega);rw [hs,← this,ext_cat (Nat.zero_le _) (by omega) hk]
theorem dy_of {d y m r : Int} {j : Nat} (hy1 : 1 ≤ y) (hy2 : y ≤ 4000) (hj : j ≤ 11) (hr1 : 1 ≤ r) (hrr : r = d - (dB y + cumM y j) + 1) (hm : m = (j : Int) + 1) (hr2 : d - (dB y + cumM y j) < mdOf y ((j : Int) + 1)) : Dy y m r ∧ dnOf y m r = d:=by
 have hD : Dy y m r:=⟨⟨⟨hy1,hy2⟩,by omega,by omega⟩,hr1,by rw [hm]; omega⟩;refine ⟨hD,?_⟩;rw [dn_yes hD,show m.toNat - 1 = j by omega];omega
theorem dtx_q0 {y m r : Int} (hy : 0 ≤ y ∧ y ≤ 4000) (_hm : 0 ≤ m ∧ m ≤ 12) (_hr : 0 ≤ r ∧ r ≤ 31) : bb (dtx y.toNat m.toNat r.toNat) 0 = (if y / 1000 < 0 then 46 else 48 + y / 1000):=by
 rw [dtx_bb (by omega),if_neg (show ¬ y / 1000 < 0 by omega)];simp;omega
theorem dtx_q1 {y m r : Int} (hy : 0 ≤ y ∧ y ≤ 4000) (_hm : 0 ≤ m ∧ m ≤ 12) (_hr : 0 ≤ r ∧ r ≤ 31) : bb (dtx y.toNat m.toNat r.toNat) 1 = (if y / 100 % 10 < 0 then 46 else 48 + y / 100 % 10):=by
 rw [dtx_bb (by omega),if_neg (show ¬ y / 100 % 10 < 0 by omega)];simp;omega
theorem dtx_q2 {y m r : Int} (hy : 0 ≤ y ∧ y ≤ 4000) (_hm : 0 ≤ m ∧ m ≤ 12) (_hr : 0 ≤ r ∧ r ≤ 31) : bb (dtx y.toNat m.toNat r.toNat) 2 = (if y / 10 % 10 < 0 then 46 else 48 + y / 10 % 10):=by
 rw [dtx_bb (by omega),if_neg (show ¬ y / 10 % 10 < 0 by omega)];simp;omega
theorem dtx_q3 {y m r : Int} (hy : 0 ≤ y ∧ y ≤ 4000) (_hm : 0 ≤ m ∧ m ≤ 12) (_hr : 0 ≤ r ∧ r ≤ 31) : bb (dtx y.toNat m.toNat r.toNat) 3 = (if y % 10 < 0 then 46 else 48 + y % 10):=by
 rw [dtx_bb (by omega),if_neg (show ¬ y % 10 < 0 by omega)];simp;omega
theorem dtx_q4 {y m r : Int} (_ : 0 ≤ y ∧ y ≤ 4000) (_ : 0 ≤ m ∧ m ≤ 12) (_ : 0 ≤ r ∧ r ≤ 31) : bb (dtx y.toNat m.toNat r.toNat) 4 = (if (-1 : Int) < 0 then 46 else 48 + (-1)):=by
 rw [dtx_bb (by omega)]; rfl
theorem dtx_q5 {y m r : Int} (_hy : 0 ≤ y ∧ y ≤ 4000) (hm : 0 ≤ m ∧ m ≤ 12) (_hr : 0 ≤ r ∧ r ≤ 31) : bb (dtx y.toNat m.toNat r.toNat) 5 = (if m / 10 < 0 then 46 else 48 + m / 10):=by
 rw [dtx_bb (by omega),if_neg (show ¬ m / 10 < 0 by omega)];simp;omega
theorem dtx_q6 {y m r : Int} (_hy : 0 ≤ y ∧ y ≤ 4000) (hm : 0 ≤ m ∧ m ≤ 12) (_hr : 0 ≤ r ∧ r ≤ 31) : bb (dtx y.toNat m.toNat r.toNat) 6 = (if m % 10 < 0 then 46 else 48 + m % 10):=by
 rw [dtx_bb (by omega),if_neg (show ¬ m % 10 < 0 by omega)];simp;omega
theorem dtx_q7 {y m r : Int} (_ : 0 ≤ y ∧ y ≤ 4000) (_ : 0 ≤ m ∧ m ≤ 12) (_ : 0 ≤ r ∧ r ≤ 31) : bb (dtx y.toNat m.toNat r.toNat) 7 = (if (-1 : Int) < 0 then 46 else 48 + (-1)):=by
 rw [dtx_bb (by omega)]; rfl
theorem dtx_q8 {y m r : Int} (_hy : 0 ≤ y ∧ y ≤ 4000) (_hm : 0 ≤ m ∧ m ≤ 12) (hr : 0 ≤ r ∧ r ≤ 31) : bb (dtx y.toNat m.toNat r.toNat) 8 = (if r / 10 < 0 then 46 else 48 + r / 10):=by
 rw [dtx_bb (by omega),if_neg (show ¬ r / 10 < 0 by omega)];simp;omega
theorem dtx_q9 {y m r : Int} (_hy : 0 ≤ y ∧ y ≤ 4000) (_hm : 0 ≤ m ∧ m ≤ 12) (hr : 0 ≤ r ∧ r ≤ 31) : bb (dtx y.toNat m.toNat r.toNat) 9 = (if r % 10 < 0 then 46 else 48 + r % 10):=by
 rw [dtx_bb (by omega),if_neg (show ¬ r % 10 < 0 by omega)];simp;omega
set_option maxHeartbeats 1600000 in
theorem specDateText_t (d : Int) (w : World) : Calls Tryz.prog 123 #[.int .i64 d] w fun e w' => (∃ s : ByteArray,e = .returned (.string s) ∧ DayT d s) ∧ Below w.heap.size w w':=by
 have HLA:=Lib.hid dB_last;by_cases h0 : 0 ≤ d ∧ d < 1460970
 ·have HI:=Lib.hid (inB_true (n:=d) (lo:=0) (hi:=1460969) h0.1 (by omega))
  have HY:=Lib.hid (dayB_yes h0.1 h0.2);obtain ⟨h00,h01⟩:=h0;go_enter Tryz.func123,Tryz.ntmps123
  go_wp2_with fail
  refine (dayN_last w).mono ?_;rintro e w1 ⟨rfl,hb1⟩
  go_wp2_with fail
  refine (l1In_any _ _ _ w1).mono ?_;rintro e w' ⟨rfl,rfl⟩;rw [HI.out]
  go_wp2_with fail
  go_loopw [3] (fun i wr => ∃ y : Int,1 ≤ y ∧ y ≤ 4000 ∧ dB y ≤ d ∧ i = .int .i64 y ∧ Below w.heap.size w wr) (fun i _ => (4001 - intOf i).toNat)
  case atStart => exact ⟨d / 366 + 1,by omega,by omega,by have:=dB_le (y:=d / 366 + 1) (by omega); omega,rfl,hb1⟩
  case round =>
   clear hb1;obtain ⟨y,hy1,hy2,hyd,rfl,hbl⟩:=hrel;have hsw:=hbl.size;by_cases hex : y < 4000 ∧ dB (y + 1) ≤ d
   ·obtain ⟨hy4,hc⟩:=hex
    have d0 : decide (y < 4000) = true:=decide_eq_true hy4;have d1 : decide (dB (y + 1) ≤ d) = true:=decide_eq_true hc;have hcall:=dayN_first (y + 1) wr (by omega) (by omega) 0 (by omega);rw [show dB (y + 1) + cumM (y + 1) 0 = dB (y + 1) by simp [cumM]] at hcall;have HC:=Lib.hid hcall;clear hcall
    go_wp2_with fail
    refine HC.out.mono ?_;rintro e w2 ⟨rfl,hb2⟩
    go_wp2_with fail
    go_roundw
    case rel => exact ⟨y + 1,by omega,by omega,hc,by first | rfl | trivial,hbl.trans (hb2.mono hsw)⟩
    case measure => simp [intOf]; omega
   ·have hr : Hid (d < dB y + restM y 12):=Lib.hid (by
       rw [← dB_succ];by_cases h4 : y < 4000
       ·exact Int.not_le.1 (fun h => hex ⟨h4,h⟩)
       ·have e : y = 4000:=by omega
        subst e;have:=HLA.out
        show d < dB 4001
        omega)
    by_cases hy4 : y < 4000
    ·have d0 : decide (y < 4000) = true:=decide_eq_true hy4
     have d1 : decide (dB (y + 1) ≤ d) = false:=decide_eq_false (fun h => hex ⟨hy4,h⟩);have hcall:=dayN_first (y + 1) wr (by omega) (by omega) 0 (by omega);rw [show dB (y + 1) + cumM (y + 1) 0 = dB (y + 1) by simp [cumM]] at hcall;have HC:=Lib.hid hcall;clear hcall hex
     go_wp2_with fail
     refine HC.out.mono ?_;clear HC;rintro e w2 ⟨rfl,hb2⟩;have hbl2:=hbl.trans (hb2.mono hsw);clear hbl hb2 hsw
     go_wp2_with fail
     go_loopw [4] (fun i wr => ∃ j : Nat,j ≤ 11 ∧ dB y + cumM y j ≤ d ∧ i = .int .i64 ((j : Int) + 1) ∧ Below w.heap.size w wr) (fun i _ => (13 - intOf i).toNat)
     case atStart => exact ⟨0,by omega,by simp [cumM]; exact hyd,by simp,hbl2⟩
     case round =>
      clear hbl2;obtain ⟨j,hj,hjd,rfl,hbl⟩:=hrel;have hsw:=hbl.size;have hge:=dB_ge hy1;have hcb:=cumM_bounds y j;by_cases hex : j < 11 ∧ dB y + cumM y (j + 1) ≤ d
      ·obtain ⟨hj1,hc⟩:=hex
       have d0 : decide ((j : Int) + 1 < 12) = true:=decide_eq_true (by omega);have d1 : decide (dB y + cumM y (j + 1) ≤ d) = true:=decide_eq_true hc;have hcall:=dayN_first y wr hy1 hy2 (j + 1) (by omega);rw [show ((j + 1 : Nat) : Int) + 1 = (j : Int) + 1 + 1 by omega] at hcall;have HC:=Lib.hid hcall;clear hcall
       go_wp2_with fail
       refine HC.out.mono ?_;rintro e w3 ⟨rfl,hb3⟩
       go_wp2_with fail
       go_roundw
       case rel => exact ⟨j + 1,by omega,hc,by first | trivial | go_num,hbl.trans (hb3.mono hsw)⟩
       case measure => simp [intOf]; omega
      ·have hr2 : d - (dB y + cumM y j) < mdOf y ((j : Int) + 1):=by
          have hs:=cumM_succ y j;by_cases h11 : j < 11
          ·have : ¬ dB y + cumM y (j + 1) ≤ d:=fun h => hex ⟨h11,h⟩
           omega
          ·have e : j = 11:=by omega
           subst e;have hf:=cumM_full y;have:=hr.out;have hs2 : cumM y 12 = cumM y 11 + mdOf y (((11 : Nat) : Int) + 1):=hs;omega
       have hmb:=mdOf_bounds y ((j : Int) + 1);have hcall9:=fun w' => dayN_first y w' hy1 hy2 j hj
       have HC9:=Lib.hid hcall9;clear hcall9;by_cases hj1 : j < 11
       ·have d0 : decide ((j : Int) + 1 < 12) = true:=decide_eq_true (by omega)
        have d1 : decide (dB y + cumM y (j + 1) ≤ d) = false:=decide_eq_false (fun h => hex ⟨hj1,h⟩);have hcall:=dayN_first y wr hy1 hy2 (j + 1) (by omega);rw [show ((j + 1 : Nat) : Int) + 1 = (j : Int) + 1 + 1 by omega] at hcall;have HC:=Lib.hid hcall;clear hcall hex
        go_wp2_with fail
        refine HC.out.mono ?_;clear HC;rintro e w3 ⟨rfl,hb3⟩;have hbl3:=hbl.trans (hb3.mono hsw);clear hbl hb3 hsw
        go_wp2_with fail
        refine (HC9.out w3).mono ?_;clear HC9;rintro e w4 ⟨rfl,hb4⟩;have hbl4:=hbl3.trans (hb4.mono hbl3.size);clear hbl3 hb4;obtain ⟨r,hrr⟩ : ∃ r,r = d - (dB y + cumM y j) + 1:=⟨_,rfl⟩;obtain ⟨m,hm⟩ : ∃ m : Int,m = (j : Int) + 1:=⟨_,rfl⟩;have hr1 : 1 ≤ r:=by omega
        have hr31 : r ≤ 31:=by omega
        go_wp2_with fail
        rw [← hrr,← hm];have hm1 : 1 ≤ m:=by omega
        have hm12 : m ≤ 12:=by omega
        have HDY:=Lib.hid (dy_of hy1 hy2 hj hr1 hrr hm hr2);clear hrr hm hr2 hmb hjd hge hcb;obtain ⟨wD,hwD⟩ : ∃ wD,wD = w4.alloc (.cells #[.int .i64 (y / 1000),.int .i64 (y / 100 % 10),.int .i64 (y / 10 % 10),.int .i64 (y % 10),.int .i64 (-1),.int .i64 (m / 10),.int .i64 (m % 10),.int .i64 (-1),.int .i64 (r / 10),.int .i64 (r % 10)] 3):=⟨_,rfl⟩;have hcell : ∀ q,q < 10 → ∃ v : Int,-1 ≤ v ∧ v ≤ 9 ∧ wD.cell? ⟨w4.heap.size,q,none⟩ = some (.int .i64 v) ∧ bb (dtx y.toNat m.toNat r.toNat) q = (if v < 0 then 46 else 48 + v):=fun q hq => by
         rw [hwD,World.cell?_alloc_at _ _ _ _ rfl]
         match q,hq with
         | 0,_ => exact ⟨y / 1000,by omega,by omega,rfl,dtx_q0 (by omega) (by omega) (by omega)⟩
         | 1,_ => exact ⟨y / 100 % 10,by omega,by omega,rfl,dtx_q1 (by omega) (by omega) (by omega)⟩
         | 2,_ => exact ⟨y / 10 % 10,by omega,by omega,rfl,dtx_q2 (by omega) (by omega) (by omega)⟩
         | 3,_ => exact ⟨y % 10,by omega,by omega,rfl,dtx_q3 (by omega) (by omega) (by omega)⟩
         | 4,_ => exact ⟨-1,by omega,by omega,rfl,dtx_q4 (by omega) (by omega) (by omega)⟩
         | 5,_ => exact ⟨m / 10,by omega,by omega,rfl,dtx_q5 (by omega) (by omega) (by omega)⟩
         | 6,_ => exact ⟨m % 10,by omega,by omega,rfl,dtx_q6 (by omega) (by omega) (by omega)⟩
         | 7,_ => exact ⟨-1,by omega,by omega,rfl,dtx_q7 (by omega) (by omega) (by omega)⟩
         | 8,_ => exact ⟨r / 10,by omega,by omega,rfl,dtx_q8 (by omega) (by omega) (by omega)⟩
         | 9,_ => exact ⟨r % 10,by omega,by omega,rfl,dtx_q9 (by omega) (by omega) (by omega)⟩
        have HCE:=Lib.hid hcell;have hblD : Below w.heap.size w wD:=by rw [hwD]; exact hbl4.alloc hbl4.size _
        have hzD : w4.heap.size < wD.heap.size:=by rw [hwD]; simp
        rw [← hwD];clear hwD hbl4 hcell
        go_loopw [6,8] (fun o i wr => ∃ (k : Nat) (s : ByteArray),k ≤ 10 ∧ Hid (s = (dtx y.toNat m.toNat r.toNat).extract 0 k) ∧ o = .string s ∧ i = .int .i64 (k : Int) ∧ Below wD.heap.size wD wr) (fun _ i _ => (10 - intOf i).toNat)
        case atStart => exact ⟨0,_,by omega,Lib.hid (ext_zero _).symm,rfl,rfl,Below.refl _ _⟩
        case round =>
         obtain ⟨k,s,hk,hst,rfl,rfl,hbw⟩:=hrel;have hsk : s.size = k:=by rw [hst.out,size_ext (by rw [dtx_size]; exact hk)]; omega
         have hsx:=hbw.size;by_cases hlt : k < 10
         ·have hd2 : decide ((k : Int) < 10) = true:=decide_eq_true (by omega)
          obtain ⟨v,hv1,hv2,hcv,hbv⟩:=HCE.out k hlt;have hcr:=(hbw.cell (p:=⟨w4.heap.size,k,none⟩) hzD).trans hcv;by_cases hneg : v < 0
          ·have hd3 : decide (v < 0) = true:=decide_eq_true hneg
           have HST:=Lib.hid (dtx_snoc (s:=s) (c:=46) hst.out (by rw [dtx_size]; exact hlt) (hbv.trans (if_pos hneg)) (by omega) (by omega));clear hbv
           go_wp2_with fail
           go_roundw
           case rel => exact ⟨k + 1,_,by omega,Lib.hid (HST.out),rfl,by first | go_num | trivial,hbw⟩
           case measure => simp [intOf]; omega
          ·have hd3 : decide (v < 0) = false:=decide_eq_false hneg
           have HST:=Lib.hid (dtx_snoc (s:=s) (c:=48 + v) hst.out (by rw [dtx_size]; exact hlt) (hbv.trans (if_neg hneg)) (by omega) (by omega));clear hbv;have hcc:=conv_c wr (48 + v)
           go_wp2_with fail
           go_roundw
           case rel => exact ⟨k + 1,_,by omega,Lib.hid (HST.out),rfl,by first | go_num | trivial,hbw.alloc hbw.size _⟩
           case measure => simp [intOf]; omega
         ·have hd2 : decide ((k : Int) < 10) = false:=decide_eq_false (by omega)
          obtain rfl : k = 10:=by omega
          go_wp2_with fail
          go_ret;exact ⟨⟨s,rfl,dayT_yes (by omega) (by omega) (by omega) HDY.out (by rw [hst.out]; exact (congrArg _ (dtx_size _ _ _).symm).trans (extract_all _))⟩,hblD.trans (hbw.mono hblD.size)⟩
       ·have d0 : decide ((j : Int) + 1 < 12) = false:=decide_eq_false (by omega)
        clear hex;have hbl3:=hbl;clear hbl hsw;obtain ⟨w3,rfl⟩ : ∃ w3 : World,w3 = wr:=⟨_,rfl⟩
        go_wp2_with fail
        refine (HC9.out w3).mono ?_;clear HC9;rintro e w4 ⟨rfl,hb4⟩;have hbl4:=hbl3.trans (hb4.mono hbl3.size);clear hbl3 hb4;obtain ⟨r,hrr⟩ : ∃ r,r = d - (dB y + cumM y j) + 1:=⟨_,rfl⟩;obtain ⟨m,hm⟩ : ∃ m : Int,m = (j : Int) + 1:=⟨_,rfl⟩;have hr1 : 1 ≤ r:=by omega
        have hr31 : r ≤ 31:=by omega
        go_wp2_with fail
        rw [← hrr,← hm];have hm1 : 1 ≤ m:=by omega
        have hm12 : m ≤ 12:=by omega
        have HDY:=Lib.hid (dy_of hy1 hy2 hj hr1 hrr hm hr2);clear hrr hm hr2 hmb hjd hge hcb;obtain ⟨wD,hwD⟩ : ∃ wD,wD = w4.alloc (.cells #[.int .i64 (y / 1000),.int .i64 (y / 100 % 10),.int .i64 (y / 10 % 10),.int .i64 (y % 10),.int .i64 (-1),.int .i64 (m / 10),.int .i64 (m % 10),.int .i64 (-1),.int .i64 (r / 10),.int .i64 (r % 10)] 3):=⟨_,rfl⟩;have hcell : ∀ q,q < 10 → ∃ v : Int,-1 ≤ v ∧ v ≤ 9 ∧ wD.cell? ⟨w4.heap.size,q,none⟩ = some (.int .i64 v) ∧ bb (dtx y.toNat m.toNat r.toNat) q = (if v < 0 then 46 else 48 + v):=fun q hq => by
         rw [hwD,World.cell?_alloc_at _ _ _ _ rfl]
         match q,hq with
         | 0,_ => exact ⟨y / 1000,by omega,by omega,rfl,dtx_q0 (by omega) (by omega) (by omega)⟩
         | 1,_ => exact ⟨y / 100 % 10,by omega,by omega,rfl,dtx_q1 (by omega) (by omega) (by omega)⟩
         | 2,_ => exact ⟨y / 10 % 10,by omega,by omega,rfl,dtx_q2 (by omega) (by omega) (by omega)⟩
         | 3,_ => exact ⟨y % 10,by omega,by omega,rfl,dtx_q3 (by omega) (by omega) (by omega)⟩
         | 4,_ => exact ⟨-1,by omega,by omega,rfl,dtx_q4 (by omega) (by omega) (by omega)⟩
         | 5,_ => exact ⟨m / 10,by omega,by omega,rfl,dtx_q5 (by omega) (by omega) (by omega)⟩
         | 6,_ => exact ⟨m % 10,by omega,by omega,rfl,dtx_q6 (by omega) (by omega) (by omega)⟩
         | 7,_ => exact ⟨-1,by omega,by omega,rfl,dtx_q7 (by omega) (by omega) (by omega)⟩
         | 8,_ => exact ⟨r / 10,by omega,by omega,rfl,dtx_q8 (by omega) (by omega) (by omega)⟩
         | 9,_ => exact ⟨r % 10,by omega,by omega,rfl,dtx_q9 (by omega) (by omega) (by omega)⟩
        have HCE:=Lib.hid hcell;have hblD : Below w.heap.size w wD:=by rw [hwD]; exact hbl4.alloc hbl4.size _
        have hzD : w4.heap.size < wD.heap.size:=by rw [hwD]; simp
        rw [← hwD];clear hwD hbl4 hcell
        go_loopw [6,8] (fun o i wr => ∃ (k : Nat) (s : ByteArray),k ≤ 10 ∧ Hid (s = (dtx y.toNat m.toNat r.toNat).extract 0 k) ∧ o = .string s ∧ i = .int .i64 (k : Int) ∧ Below wD.heap.size wD wr) (fun _ i _ => (10 - intOf i).toNat)
        case atStart => exact ⟨0,_,by omega,Lib.hid (ext_zero _).symm,rfl,rfl,Below.refl _ _⟩
        case round =>
         obtain ⟨k,s,hk,hst,rfl,rfl,hbw⟩:=hrel;have hsk : s.size = k:=by rw [hst.out,size_ext (by rw [dtx_size]; exact hk)]; omega
         have hsx:=hbw.size;by_cases hlt : k < 10
         ·have hd2 : decide ((k : Int) < 10) = true:=decide_eq_true (by omega)
          obtain ⟨v,hv1,hv2,hcv,hbv⟩:=HCE.out k hlt;have hcr:=(hbw.cell (p:=⟨w4.heap.size,k,none⟩) hzD).trans hcv;by_cases hneg : v < 0
          ·have hd3 : decide (v < 0) = true:=decide_eq_true hneg
           have HST:=Lib.hid (dtx_snoc (s:=s) (c:=46) hst.out (by rw [dtx_size]; exact hlt) (hbv.trans (if_pos hneg)) (by omega) (by omega));clear hbv
           go_wp2_with fail
           go_roundw
           case rel => exact ⟨k + 1,_,by omega,Lib.hid (HST.out),rfl,by first | go_num | trivial,hbw⟩
           case measure => simp [intOf]; omega
          ·have hd3 : decide (v < 0) = false:=decide_eq_false hneg
           have HST:=Lib.hid (dtx_snoc (s:=s) (c:=48 + v) hst.out (by rw [dtx_size]; exact hlt) (hbv.trans (if_neg hneg)) (by omega) (by omega));clear hbv;have hcc:=conv_c wr (48 + v)
           go_wp2_with fail
           go_roundw
           case rel => exact ⟨k + 1,_,by omega,Lib.hid (HST.out),rfl,by first | go_num | trivial,hbw.alloc hbw.size _⟩
           case measure => simp [intOf]; omega
         ·have hd2 : decide ((k : Int) < 10) = false:=decide_eq_false (by omega)
          obtain rfl : k = 10:=by omega
          go_wp2_with fail
          go_ret;exact ⟨⟨s,rfl,dayT_yes (by omega) (by omega) (by omega) HDY.out (by rw [hst.out]; exact (congrArg _ (dtx_size _ _ _).symm).trans (extract_all _))⟩,hblD.trans (hbw.mono hblD.size)⟩
    ·have d0 : decide (y < 4000) = false:=decide_eq_false hy4
     clear hex;have hbl2:=hbl;clear hbl hsw;obtain ⟨w2,rfl⟩ : ∃ w2 : World,w2 = wr:=⟨_,rfl⟩
     go_wp2_with fail
     clear d0 hy4
     go_loopw [4] (fun i wr => ∃ j : Nat,j ≤ 11 ∧ dB y + cumM y j ≤ d ∧ i = .int .i64 ((j : Int) + 1) ∧ Below w.heap.size w wr) (fun i _ => (13 - intOf i).toNat)
     case atStart => exact ⟨0,by omega,by simp [cumM]; exact hyd,by simp,hbl2⟩
     case round =>
      clear hbl2;obtain ⟨j,hj,hjd,rfl,hbl⟩:=hrel;have hsw:=hbl.size;have hge:=dB_ge hy1;have hcb:=cumM_bounds y j;by_cases hex : j < 11 ∧ dB y + cumM y (j + 1) ≤ d
      ·obtain ⟨hj1,hc⟩:=hex
       have d0 : decide ((j : Int) + 1 < 12) = true:=decide_eq_true (by omega);have d1 : decide (dB y + cumM y (j + 1) ≤ d) = true:=decide_eq_true hc;have hcall:=dayN_first y wr hy1 hy2 (j + 1) (by omega);rw [show ((j + 1 : Nat) : Int) + 1 = (j : Int) + 1 + 1 by omega] at hcall;have HC:=Lib.hid hcall;clear hcall
       go_wp2_with fail
       refine HC.out.mono ?_;rintro e w3 ⟨rfl,hb3⟩
       go_wp2_with fail
       go_roundw
       case rel => exact ⟨j + 1,by omega,hc,by first | trivial | go_num,hbl.trans (hb3.mono hsw)⟩
       case measure => simp [intOf]; omega
      ·have hr2 : d - (dB y + cumM y j) < mdOf y ((j : Int) + 1):=by
          have hs:=cumM_succ y j;by_cases h11 : j < 11
          ·have : ¬ dB y + cumM y (j + 1) ≤ d:=fun h => hex ⟨h11,h⟩
           omega
          ·have e : j = 11:=by omega
           subst e;have hf:=cumM_full y;have:=hr.out;have hs2 : cumM y 12 = cumM y 11 + mdOf y (((11 : Nat) : Int) + 1):=hs;omega
       have hmb:=mdOf_bounds y ((j : Int) + 1);have hcall9:=fun w' => dayN_first y w' hy1 hy2 j hj
       have HC9:=Lib.hid hcall9;clear hcall9;by_cases hj1 : j < 11
       ·have d0 : decide ((j : Int) + 1 < 12) = true:=decide_eq_true (by omega)
        have d1 : decide (dB y + cumM y (j + 1) ≤ d) = false:=decide_eq_false (fun h => hex ⟨hj1,h⟩);have hcall:=dayN_first y wr hy1 hy2 (j + 1) (by omega);rw [show ((j + 1 : Nat) : Int) + 1 = (j : Int) + 1 + 1 by omega] at hcall;have HC:=Lib.hid hcall;clear hcall hex
        go_wp2_with fail
        refine HC.out.mono ?_;clear HC;rintro e w3 ⟨rfl,hb3⟩;have hbl3:=hbl.trans (hb3.mono hsw);clear hbl hb3 hsw
        go_wp2_with fail
        refine (HC9.out w3).mono ?_;clear HC9;rintro e w4 ⟨rfl,hb4⟩;have hbl4:=hbl3.trans (hb4.mono hbl3.size);clear hbl3 hb4;obtain ⟨r,hrr⟩ : ∃ r,r = d - (dB y + cumM y j) + 1:=⟨_,rfl⟩;obtain ⟨m,hm⟩ : ∃ m : Int,m = (j : Int) + 1:=⟨_,rfl⟩;have hr1 : 1 ≤ r:=by omega
        have hr31 : r ≤ 31:=by omega
        go_wp2_with fail
        rw [← hrr,← hm];have hm1 : 1 ≤ m:=by omega
        have hm12 : m ≤ 12:=by omega
        have HDY:=Lib.hid (dy_of hy1 hy2 hj hr1 hrr hm hr2);clear hrr hm hr2 hmb hjd hge hcb;obtain ⟨wD,hwD⟩ : ∃ wD,wD = w4.alloc (.cells #[.int .i64 (y / 1000),.int .i64 (y / 100 % 10),.int .i64 (y / 10 % 10),.int .i64 (y % 10),.int .i64 (-1),.int .i64 (m / 10),.int .i64 (m % 10),.int .i64 (-1),.int .i64 (r / 10),.int .i64 (r % 10)] 3):=⟨_,rfl⟩;have hcell : ∀ q,q < 10 → ∃ v : Int,-1 ≤ v ∧ v ≤ 9 ∧ wD.cell? ⟨w4.heap.size,q,none⟩ = some (.int .i64 v) ∧ bb (dtx y.toNat m.toNat r.toNat) q = (if v < 0 then 46 else 48 + v):=fun q hq => by
         rw [hwD,World.cell?_alloc_at _ _ _ _ rfl]
         match q,hq with
         | 0,_ => exact ⟨y / 1000,by omega,by omega,rfl,dtx_q0 (by omega) (by omega) (by omega)⟩
         | 1,_ => exact ⟨y / 100 % 10,by omega,by omega,rfl,dtx_q1 (by omega) (by omega) (by omega)⟩
         | 2,_ => exact ⟨y / 10 % 10,by omega,by omega,rfl,dtx_q2 (by omega) (by omega) (by omega)⟩
         | 3,_ => exact ⟨y % 10,by omega,by omega,rfl,dtx_q3 (by omega) (by omega) (by omega)⟩
         | 4,_ => exact ⟨-1,by omega,by omega,rfl,dtx_q4 (by omega) (by omega) (by omega)⟩
         | 5,_ => exact ⟨m / 10,by omega,by omega,rfl,dtx_q5 (by omega) (by omega) (by omega)⟩
         | 6,_ => exact ⟨m % 10,by omega,by omega,rfl,dtx_q6 (by omega) (by omega) (by omega)⟩
         | 7,_ => exact ⟨-1,by omega,by omega,rfl,dtx_q7 (by omega) (by omega) (by omega)⟩
         | 8,_ => exact ⟨r / 10,by omega,by omega,rfl,dtx_q8 (by omega) (by omega) (by omega)⟩
         | 9,_ => exact ⟨r % 10,by omega,by omega,rfl,dtx_q9 (by omega) (by omega) (by omega)⟩
        have HCE:=Lib.hid hcell;have hblD : Below w.heap.size w wD:=by rw [hwD]; exact hbl4.alloc hbl4.size _
        have hzD : w4.heap.size < wD.heap.size:=by rw [hwD]; simp
        rw [← hwD];clear hwD hbl4 hcell
        go_loopw [6,8] (fun o i wr => ∃ (k : Nat) (s : ByteArray),k ≤ 10 ∧ Hid (s = (dtx y.toNat m.toNat r.toNat).extract 0 k) ∧ o = .string s ∧ i = .int .i64 (k : Int) ∧ Below wD.heap.size wD wr) (fun _ i _ => (10 - intOf i).toNat)
        case atStart => exact ⟨0,_,by omega,Lib.hid (ext_zero _).symm,rfl,rfl,Below.refl _ _⟩
        case round =>
         obtain ⟨k,s,hk,hst,rfl,rfl,hbw⟩:=hrel;have hsk : s.size = k:=by rw [hst.out,size_ext (by rw [dtx_size]; exact hk)]; omega
         have hsx:=hbw.size;by_cases hlt : k < 10
         ·have hd2 : decide ((k : Int) < 10) = true:=decide_eq_true (by omega)
          obtain ⟨v,hv1,hv2,hcv,hbv⟩:=HCE.out k hlt;have hcr:=(hbw.cell (p:=⟨w4.heap.size,k,none⟩) hzD).trans hcv;by_cases hneg : v < 0
          ·have hd3 : decide (v < 0) = true:=decide_eq_true hneg
           have HST:=Lib.hid (dtx_snoc (s:=s) (c:=46) hst.out (by rw [dtx_size]; exact hlt) (hbv.trans (if_pos hneg)) (by omega) (by omega));clear hbv
           go_wp2_with fail
           go_roundw
           case rel => exact ⟨k + 1,_,by omega,Lib.hid (HST.out),rfl,by first | go_num | trivial,hbw⟩
           case measure => simp [intOf]; omega
          ·have hd3 : decide (v < 0) = false:=decide_eq_false hneg
           have HST:=Lib.hid (dtx_snoc (s:=s) (c:=48 + v) hst.out (by rw [dtx_size]; exact hlt) (hbv.trans (if_neg hneg)) (by omega) (by omega));clear hbv;have hcc:=conv_c wr (48 + v)
           go_wp2_with fail
           go_roundw
           case rel => exact ⟨k + 1,_,by omega,Lib.hid (HST.out),rfl,by first | go_num | trivial,hbw.alloc hbw.size _⟩
           case measure => simp [intOf]; omega
         ·have hd2 : decide ((k : Int) < 10) = false:=decide_eq_false (by omega)
          obtain rfl : k = 10:=by omega
          go_wp2_with fail
          go_ret;exact ⟨⟨s,rfl,dayT_yes (by omega) (by omega) (by omega) HDY.out (by rw [hst.out]; exact (congrArg _ (dtx_size _ _ _).symm).trans (extract_all _))⟩,hblD.trans (hbw.mono hblD.size)⟩
       ·have d0 : decide ((j : Int) + 1 < 12) = false:=decide_eq_false (by omega)
        clear hex;have hbl3:=hbl;clear hbl hsw;obtain ⟨w3,rfl⟩ : ∃ w3 : World,w3 = wr:=⟨_,rfl⟩
        go_wp2_with fail
        refine (HC9.out w3).mono ?_;clear HC9;rintro e w4 ⟨rfl,hb4⟩;have hbl4:=hbl3.trans (hb4.mono hbl3.size);clear hbl3 hb4;obtain ⟨r,hrr⟩ : ∃ r,r = d - (dB y + cumM y j) + 1:=⟨_,rfl⟩;obtain ⟨m,hm⟩ : ∃ m : Int,m = (j : Int) + 1:=⟨_,rfl⟩;have hr1 : 1 ≤ r:=by omega
        have hr31 : r ≤ 31:=by omega
        go_wp2_with fail
        rw [← hrr,← hm];have hm1 : 1 ≤ m:=by omega
        have hm12 : m ≤ 12:=by omega
        have HDY:=Lib.hid (dy_of hy1 hy2 hj hr1 hrr hm hr2);clear hrr hm hr2 hmb hjd hge hcb;obtain ⟨wD,hwD⟩ : ∃ wD,wD = w4.alloc (.cells #[.int .i64 (y / 1000),.int .i64 (y / 100 % 10),.int .i64 (y / 10 % 10),.int .i64 (y % 10),.int .i64 (-1),.int .i64 (m / 10),.int .i64 (m % 10),.int .i64 (-1),.int .i64 (r / 10),.int .i64 (r % 10)] 3):=⟨_,rfl⟩;have hcell : ∀ q,q < 10 → ∃ v : Int,-1 ≤ v ∧ v ≤ 9 ∧ wD.cell? ⟨w4.heap.size,q,none⟩ = some (.int .i64 v) ∧ bb (dtx y.toNat m.toNat r.toNat) q = (if v < 0 then 46 else 48 + v):=fun q hq => by
         rw [hwD,World.cell?_alloc_at _ _ _ _ rfl]
         match q,hq with
         | 0,_ => exact ⟨y / 1000,by omega,by omega,rfl,dtx_q0 (by omega) (by omega) (by omega)⟩
         | 1,_ => exact ⟨y / 100 % 10,by omega,by omega,rfl,dtx_q1 (by omega) (by omega) (by omega)⟩
         | 2,_ => exact ⟨y / 10 % 10,by omega,by omega,rfl,dtx_q2 (by omega) (by omega) (by omega)⟩
         | 3,_ => exact ⟨y % 10,by omega,by omega,rfl,dtx_q3 (by omega) (by omega) (by omega)⟩
         | 4,_ => exact ⟨-1,by omega,by omega,rfl,dtx_q4 (by omega) (by omega) (by omega)⟩
         | 5,_ => exact ⟨m / 10,by omega,by omega,rfl,dtx_q5 (by omega) (by omega) (by omega)⟩
         | 6,_ => exact ⟨m % 10,by omega,by omega,rfl,dtx_q6 (by omega) (by omega) (by omega)⟩
         | 7,_ => exact ⟨-1,by omega,by omega,rfl,dtx_q7 (by omega) (by omega) (by omega)⟩
         | 8,_ => exact ⟨r / 10,by omega,by omega,rfl,dtx_q8 (by omega) (by omega) (by omega)⟩
         | 9,_ => exact ⟨r % 10,by omega,by omega,rfl,dtx_q9 (by omega) (by omega) (by omega)⟩
        have HCE:=Lib.hid hcell;have hblD : Below w.heap.size w wD:=by rw [hwD]; exact hbl4.alloc hbl4.size _
        have hzD : w4.heap.size < wD.heap.size:=by rw [hwD]; simp
        rw [← hwD];clear hwD hbl4 hcell
        go_loopw [6,8] (fun o i wr => ∃ (k : Nat) (s : ByteArray),k ≤ 10 ∧ Hid (s = (dtx y.toNat m.toNat r.toNat).extract 0 k) ∧ o = .string s ∧ i = .int .i64 (k : Int) ∧ Below wD.heap.size wD wr) (fun _ i _ => (10 - intOf i).toNat)
        case atStart => exact ⟨0,_,by omega,Lib.hid (ext_zero _).symm,rfl,rfl,Below.refl _ _⟩
        case round =>
         obtain ⟨k,s,hk,hst,rfl,rfl,hbw⟩:=hrel;have hsk : s.size = k:=by rw [hst.out,size_ext (by rw [dtx_size]; exact hk)]; omega
         have hsx:=hbw.size;by_cases hlt : k < 10
         ·have hd2 : decide ((k : Int) < 10) = true:=decide_eq_true (by omega)
          obtain ⟨v,hv1,hv2,hcv,hbv⟩:=HCE.out k hlt;have hcr:=(hbw.cell (p:=⟨w4.heap.size,k,none⟩) hzD).trans hcv;by_cases hneg : v < 0
          ·have hd3 : decide (v < 0) = true:=decide_eq_true hneg
           have HST:=Lib.hid (dtx_snoc (s:=s) (c:=46) hst.out (by rw [dtx_size]; exact hlt) (hbv.trans (if_pos hneg)) (by omega) (by omega));clear hbv
           go_wp2_with fail
           go_roundw
           case rel => exact ⟨k + 1,_,by omega,Lib.hid (HST.out),rfl,by first | go_num | trivial,hbw⟩
           case measure => simp [intOf]; omega
          ·have hd3 : decide (v < 0) = false:=decide_eq_false hneg
           have HST:=Lib.hid (dtx_snoc (s:=s) (c:=48 + v) hst.out (by rw [dtx_size]; exact hlt) (hbv.trans (if_neg hneg)) (by omega) (by omega));clear hbv;have hcc:=conv_c wr (48 + v)
           go_wp2_with fail
           go_roundw
           case rel => exact ⟨k + 1,_,by omega,Lib.hid (HST.out),rfl,by first | go_num | trivial,hbw.alloc hbw.size _⟩
           case measure => simp [intOf]; omega
         ·have hd2 : decide ((k : Int) < 10) = false:=decide_eq_false (by omega)
          obtain rfl : k = 10:=by omega
          go_wp2_with fail
          go_ret;exact ⟨⟨s,rfl,dayT_yes (by omega) (by omega) (by omega) HDY.out (by rw [hst.out]; exact (congrArg _ (dtx_size _ _ _).symm).trans (extract_all _))⟩,hblD.trans (hbw.mono hblD.size)⟩
 ·have HI:=Lib.hid (inB_false (n:=d) (lo:=0) (hi:=1460969) (by omega))
  have HN:=Lib.hid (dayB_no (d:=d) (by omega));clear h0;go_enter Tryz.func123,Tryz.ntmps123
  go_wp2_with fail
  refine (dayN_last w).mono ?_;rintro e w1 ⟨rfl,hb1⟩
  go_wp2_with fail
  refine (l1In_any _ _ _ w1).mono ?_;rintro e w' ⟨rfl,rfl⟩;rw [HI.out]
  go_wp2_with fail
  go_ret;exact ⟨⟨_,rfl,dayT_no HN.out⟩,hb1⟩

theorem inB_ff {n lo hi : Int} (h : ¬ (lo ≤ n ∧ n ≤ hi)) : inB n lo hi = false:=inB_false (by omega)
theorem dy_md {y m d : Int} (h1 : 1 ≤ d) (h2 : d ≤ mdA y m) : Dy y m d:=by
 unfold mdA at h2
 split at h2
 ·next h => exact ⟨h,h1,h2⟩
 ·omega
theorem dy_mdA {y m d : Int} (h : Dy y m d) : 1 ≤ d ∧ d ≤ mdA y m:=by
 obtain ⟨⟨h1,h2⟩,h3⟩:=h;rw [mdA_yes h1.1 h1.2 h2.1 h2.2]; exact h3
theorem implMonthDays_b (y m : Int) (w : World) : Calls Tryz.prog 164 #[.int .i64 y,.int .i64 m] w fun e w' => e = .returned (.int .i64 (mdA y m)) ∧ w = w':=by
 by_cases h : (1 ≤ y ∧ y ≤ 4000) ∧ 1 ≤ m ∧ m ≤ 12
 ·rw [mdA_yes h.1.1 h.1.2 h.2.1 h.2.2]; exact implMonthDays_any y m w h.1.1 h.1.2 h.2.1 h.2.2
 rw [mdA_no h];by_cases hy : 1 ≤ y ∧ y ≤ 4000
 ·have HI0:=Lib.hid (inB_true hy.1 hy.2)
  have HI1:=Lib.hid (inB_ff (n:=m) (lo:=1) (hi:=12) (fun q => h ⟨hy,q⟩));clear h hy;go_enter Tryz.func164,Tryz.ntmps164
  go_wp2_with fail
  refine (within_any _ _ _ w).mono ?_;rintro e w' ⟨rfl,rfl⟩;rw [HI0.out]
  go_wp2_with fail
  refine (within_any _ _ _ w).mono ?_;rintro e w' ⟨rfl,rfl⟩;rw [HI1.out]
  go_wp2_with fail
  go_ret;exact ⟨rfl,rfl⟩
 ·have HI1:=Lib.hid (inB_ff hy)
  clear h hy;go_enter Tryz.func164,Tryz.ntmps164
  go_wp2_with fail
  refine (within_any _ _ _ w).mono ?_;rintro e w' ⟨rfl,rfl⟩;rw [HI1.out]
  go_wp2_with fail
  go_ret;exact ⟨rfl,rfl⟩
theorem specMonthDays_b (y m : Int) (w : World) : Calls Tryz.prog 148 #[.int .i64 y,.int .i64 m] w fun e w' => e = .returned (.int .i64 (mdA y m)) ∧ Below w.heap.size w w':=by
 by_cases h : (1 ≤ y ∧ y ≤ 4000) ∧ 1 ≤ m ∧ m ≤ 12
 ·rw [mdA_yes h.1.1 h.1.2 h.2.1 h.2.2]; exact specMonthDays_any y m w h.1.1 h.1.2 h.2.1 h.2.2
 rw [mdA_no h];by_cases hy : 1 ≤ y ∧ y ≤ 4000
 ·have HI0:=Lib.hid (inB_true hy.1 hy.2)
  have HI1:=Lib.hid (inB_ff (n:=m) (lo:=1) (hi:=12) (fun q => h ⟨hy,q⟩));clear h hy;go_enter Tryz.func148,Tryz.ntmps148
  go_wp2_with fail
  refine (l1In_any _ _ _ w).mono ?_;rintro e w' ⟨rfl,rfl⟩;rw [HI0.out]
  go_wp2_with fail
  refine (l1In_any _ _ _ w).mono ?_;rintro e w' ⟨rfl,rfl⟩;rw [HI1.out]
  go_wp2_with fail
  go_ret;exact ⟨rfl,Below.refl _ _⟩
 ·have HI1:=Lib.hid (inB_ff hy)
  clear h hy;go_enter Tryz.func148,Tryz.ntmps148
  go_wp2_with fail
  refine (l1In_any _ _ _ w).mono ?_;rintro e w' ⟨rfl,rfl⟩;rw [HI1.out]
  go_wp2_with fail
  go_ret;exact ⟨rfl,Below.refl _ _⟩
set_option maxHeartbeats 800000 in
theorem implDayNumber_b (y m d : Int) (w : World) : Calls Tryz.prog 158 #[.int .i64 y,.int .i64 m,.int .i64 d] w fun e w' => e = .returned (.int .i64 (dnOf y m d)) ∧ w = w':=by
 by_cases hD : Dy y m d
 ·have HQ:=Lib.hid (dn_yes hD)
  have hmd:=dy_mdA hD;obtain ⟨⟨⟨hy1,hy2⟩,hm1,hm2⟩,hd1,hd2⟩:=hD;obtain ⟨n,rfl⟩ : ∃ n : Nat,m = (n : Int) + 1:=⟨(m - 1).toNat,by omega⟩;have g1 : decide (d < 1) = false:=decide_eq_false (by omega);have g2 : decide (mdA y ((n : Int) + 1) < d) = false:=decide_eq_false (by omega);have hmb:=mdOf_bounds y ((n : Int) + 1);have hge:=dB_ge hy1;have hle:=dB_le hy1;have hd31 : d ≤ 31:=by omega
  clear hmd hd2;go_enter Tryz.func158,Tryz.ntmps158
  go_wp2_with (go_at_call 164; refine (implMonthDays_b _ _ _).mono ?_; rintro e w' ⟨rfl,rfl⟩)
  refine (daysBefore_any y w hy1 (by omega)).mono ?_;rintro e w' ⟨rfl,rfl⟩
  go_wp2_with fail
  go_loop [7,8] (fun v i => ∃ j : Nat,j ≤ n ∧ v = .int .i64 (dB y + cumM y j) ∧ i = .int .i64 ((j : Int) + 1)) (fun _ i => (13 - intOf i).toNat)
  case atStart => exact ⟨0,Nat.zero_le _,by simp [cumM],rfl⟩
  case round =>
   obtain ⟨j,hj,rfl,rfl⟩:=hrel;have hcb:=cumM_bounds y j;by_cases hlt : j < n
   ·have d0 : decide ((j : Int) + 1 < (n : Int) + 1) = true:=decide_eq_true (by omega)
    have d1 : (j : Int) < (n : Int):=by omega
    have hmj:=mdOf_bounds y ((j : Int) + 1)
    go_wp2_with fail
    refine (implMonthDays_any y ((j : Int) + 1) w hy1 hy2 (by omega) (by omega)).mono ?_;rintro e w' ⟨rfl,rfl⟩
    go_wp2_with fail
    go_round
    case rel => exact ⟨j + 1,by omega,by rw [cumM_succ,Int.add_assoc],by go_num⟩
    case measure => simp [intOf]; omega
   ·have d0 : decide ((j : Int) + 1 < (n : Int) + 1) = false:=decide_eq_false (by omega)
    have d1 : ¬ (j : Int) < (n : Int):=by omega
    obtain rfl : j = n:=by omega
    have HR:=Lib.hid (show dnOf y ((j : Int) + 1) d = dB y + cumM y j + d - 1 by rw [HQ.out,show ((j : Int) + 1).toNat - 1 = j by omega]; omega)
    go_wp2_with fail
    go_ret;exact ⟨ret_int HR.out.symm,rfl⟩
 ·have HQ:=Lib.hid (dn_no hD)
  by_cases h1 : d < 1
  ·have g1 : decide (d < 1) = true:=decide_eq_true h1
   go_enter Tryz.func158,Tryz.ntmps158
   go_wp2_with fail
   go_ret;exact ⟨ret_int HQ.out.symm,rfl⟩
  ·have g1 : decide (d < 1) = false:=decide_eq_false h1
   have g2 : decide (mdA y m < d) = true:=decide_eq_true (Int.not_le.1 (fun h => hD (dy_md (by omega) h)));clear hD;go_enter Tryz.func158,Tryz.ntmps158
   go_wp2_with (go_at_call 164; refine (implMonthDays_b _ _ _).mono ?_; rintro e w' ⟨rfl,rfl⟩)
   go_ret;exact ⟨ret_int HQ.out.symm,rfl⟩
set_option maxHeartbeats 800000 in
theorem specDayNumber_b (y m d : Int) (w : World) : Calls Tryz.prog 122 #[.int .i64 y,.int .i64 m,.int .i64 d] w fun e w' => e = .returned (.int .i64 (dnOf y m d)) ∧ Below w.heap.size w w':=by
 by_cases hD : Dy y m d
 ·have HQ:=dn_yes hD
  obtain ⟨⟨⟨hy1,hy2⟩,hm1,hm2⟩,hd1,hd2⟩:=hD;obtain ⟨n,rfl⟩:=Int.eq_ofNat_of_zero_le (show 0 ≤ m by omega);have hc:=specDayNumber_any y d n w hy1 hy2 (by omega) (by omega) hd1 hd2;rw [HQ];exact hc
 ·rw [dn_no hD]
  have HI:=Lib.hid (inB_ff (n:=d) (lo:=1) (hi:=mdA y m) (fun q => hD (dy_md q.1 q.2)));clear hD;go_enter Tryz.func122,Tryz.ntmps122
  go_wp2_with fail
  refine (specMonthDays_b y m w).mono ?_;rintro e w1 ⟨rfl,b1⟩
  go_wp2_with fail
  refine (l1In_any _ _ _ w1).mono ?_;rintro e w' ⟨rfl,rfl⟩;rw [HI.out]
  go_wp2_with fail
  go_ret;exact ⟨rfl,b1⟩
def dgs (t : ByteArray) (k : Nat) : Prop:=∀ j,j < k → 48 ≤ bb t j ∧ bb t j ≤ 57
instance (t : ByteArray) (k : Nat) : Decidable (dgs t k):=inferInstanceAs (Decidable (∀ j,j < k → _))
def rpTo (t : ByteArray) : Nat → Int
 | 0 => 0
 | k + 1 => rpTo t k * 10 + (bb t k - 48)
def rpOf (t : ByteArray) : Int:=if dgs t t.size then rpTo t t.size else -1
theorem dgs_succ {t : ByteArray} {k : Nat} (h : dgs t k) (h1 : 48 ≤ bb t k ∧ bb t k ≤ 57) : dgs t (k + 1):=fun j hj => by
 rcases Nat.lt_succ_iff_lt_or_eq.1 hj with q | rfl
 ·exact h j q
 ·exact h1
theorem rp_bound {t : ByteArray} {k : Nat} (h : dgs t k) : 0 ≤ rpTo t k ∧ rpTo t k + 1 ≤ (10 ^ k : Nat):=by
 induction k with
 | zero => exact ⟨Int.le_refl _,by simp [rpTo]⟩
 | succ k ih =>
  have h1:=ih (fun j hj => h j (by omega));have h2:=h k (by omega);rw [rpTo,Nat.pow_succ];omega
theorem rp_small {t : ByteArray} {k : Nat} (h : dgs t k) (hk : k ≤ 4) : 0 ≤ rpTo t k ∧ rpTo t k ≤ 9999:=by
 have h1:=rp_bound h;have h2 : 10 ^ k ≤ 10 ^ 4:=Nat.pow_le_pow_right (by omega) hk;omega
theorem rp_yes {t : ByteArray} (h : dgs t t.size) : rpOf t = rpTo t t.size:=if_pos h
theorem rp_no {t : ByteArray} {k : Nat} (hk : k < t.size) (h : ¬ (48 ≤ bb t k ∧ bb t k ≤ 57)) : rpOf t = -1:=if_neg (fun q => h (q k hk))
theorem rd_rp {s : ByteArray} (hs : s.size = 10) (h4 : bb s 4 = 46) (h7 : bb s 7 = 46) : rdD s = if 0 ≤ rpOf (s.extract 0 4) ∧ 0 ≤ rpOf (s.extract 5 7) ∧ 0 ≤ rpOf (s.extract 8 s.size) then dnOf (rpOf (s.extract 0 4)) (rpOf (s.extract 5 7)) (rpOf (s.extract 8 s.size)) else -1:=by
 have z1 : (s.extract 0 4).size = 4:=size_ext (by omega);have z2 : (s.extract 5 7).size = 2:=size_ext (by omega);have z3 : (s.extract 8 s.size).size = 2:=by rw [size_ext (Nat.le_refl _)]; omega
 have b1 : ∀ j,j < 4 → bb (s.extract 0 4) j = bb s j:=fun j hj => by rw [bb_extract (by omega) (by omega),Nat.zero_add]
 have b2 : ∀ j,j < 2 → bb (s.extract 5 7) j = bb s (5 + j):=fun j hj => bb_extract (by omega) (by omega)
 have b3 : ∀ j,j < 2 → bb (s.extract 8 s.size) j = bb s (8 + j):=fun j hj => bb_extract (Nat.le_refl _) (by omega)
 by_cases hC : Cn s
 ·have d1 : dgs (s.extract 0 4) 4:=fun j hj => by rw [b1 j hj]; exact hC.2.2.2 j (by omega) (by omega) (by omega)
  have d2 : dgs (s.extract 5 7) 2:=fun j hj => by rw [b2 j hj]; exact hC.2.2.2 (5 + j) (by omega) (by omega) (by omega)
  have d3 : dgs (s.extract 8 s.size) 2:=fun j hj => by rw [b3 j hj]; exact hC.2.2.2 (8 + j) (by omega) (by omega) (by omega)
  have g : ∀ j,j < 10 → j ≠ 4 → j ≠ 7 → bb s j - 48 = (dgt s j : Int):=fun j h1 h2 h3 => by have:=(cn_dg hC h1 h2 h3).1; omega
  have e1 : rpOf (s.extract 0 4) = (pY s : Int):=by
   rw [rp_yes (by rw [z1]; exact d1),z1];simp only [rpTo,b1 0 (by omega),b1 1 (by omega),b1 2 (by omega),b1 3 (by omega),g 0 (by omega) (by omega) (by omega),g 1 (by omega) (by omega) (by omega),g 2 (by omega) (by omega) (by omega),g 3 (by omega) (by omega) (by omega)];unfold pY; omega
  have e2 : rpOf (s.extract 5 7) = (pM s : Int):=by
   rw [rp_yes (by rw [z2]; exact d2),z2];simp only [rpTo,b2 0 (by omega),b2 1 (by omega),g (5 + 0) (by omega) (by omega) (by omega),g (5 + 1) (by omega) (by omega) (by omega)]
   show _ = (pM s : Int)
   unfold pM; simp only [Nat.add_zero]; show (0 * 10 + (dgt s 5 : Int)) * 10 + (dgt s 6 : Int) = _; omega
  have e3 : rpOf (s.extract 8 s.size) = (pD s : Int):=by
   rw [rp_yes (by rw [z3]; exact d3),z3];simp only [rpTo,b3 0 (by omega),b3 1 (by omega),g (8 + 0) (by omega) (by omega) (by omega),g (8 + 1) (by omega) (by omega) (by omega)]
   show _ = (pD s : Int)
   unfold pD; simp only [Nat.add_zero]; show (0 * 10 + (dgt s 8 : Int)) * 10 + (dgt s 9 : Int) = _; omega
  rw [rdD_yes hC,e1,e2,e3,if_pos (by omega)]
 ·rw [rdD_no hC,if_neg]
  rintro ⟨q1,q2,q3⟩;have p1 : dgs (s.extract 0 4) (s.extract 0 4).size:=by
   apply Classical.byContradiction; intro h; rw [rpOf,if_neg h] at q1; omega
  have p2 : dgs (s.extract 5 7) (s.extract 5 7).size:=by
   apply Classical.byContradiction; intro h; rw [rpOf,if_neg h] at q2; omega
  have p3 : dgs (s.extract 8 s.size) (s.extract 8 s.size).size:=by
   apply Classical.byContradiction; intro h; rw [rpOf,if_neg h] at q3; omega
  rw [z1] at p1;rw [z2] at p2;rw [z3] at p3;refine hC ⟨hs,h4,h7,fun j hj n4 n7 => ?_⟩;by_cases c1 : j < 4
  ·have:=p1 j c1; rwa [b1 j c1] at this
  ·by_cases c2 : j < 7
   ·have:=p2 (j - 5) (by omega); rwa [b2 _ (by omega),show 5 + (j - 5) = j by omega] at this
   ·have:=p3 (j - 8) (by omega); rwa [b3 _ (by omega),show 8 + (j - 8) = j by omega] at this
set_option maxHeartbeats 800000 in
theorem readPadded_any (t : ByteArray) (w : World) (ht : t.size ≤ 4) : Calls Tryz.prog 157 #[.string t] w fun e w' => e = .returned (.int .i64 (rpOf t)) ∧ w = w':=by
 have hbb:=bb_eq t;go_enter Tryz.func157,Tryz.ntmps157
 go_wp2_with fail
 go_loop [3,4] (fun n i => ∃ k : Nat,k ≤ t.size ∧ Hid (dgs t k) ∧ n = .int .i64 (rpTo t k) ∧ i = .int .i64 k) (fun _ i => t.size - (intOf i).toNat)
 case atStart => exact ⟨0,Nat.zero_le _,Lib.hid (fun j hj => absurd hj (by omega)),rfl,rfl⟩
 case round =>
  obtain ⟨k,hk,hd,rfl,rfl⟩:=hrel;have hrb:=rp_small hd.out (by omega);have hbg:=bb_ge t k;by_cases hlt : k < t.size
  ·have hki : (k : Int) < (t.size : Int):=by omega
   have hk0 : (0 : Int) ≤ (k : Int):=by omega
   by_cases h1 : bb t k < 48
   ·have g1 : decide (bb t k < 48) = true:=decide_eq_true h1
    have HQ:=Lib.hid (rp_no hlt (by omega))
    go_wp2_with fail
    go_ret;exact ⟨ret_int HQ.out.symm,rfl⟩
   ·have g1 : decide (bb t k < 48) = false:=decide_eq_false h1
    by_cases h2 : 57 < bb t k
    ·have g2 : decide (57 < bb t k) = true:=decide_eq_true h2
     have HQ:=Lib.hid (rp_no hlt (by omega))
     go_wp2_with fail
     go_ret;exact ⟨ret_int HQ.out.symm,rfl⟩
    ·have g2 : decide (57 < bb t k) = false:=decide_eq_false h2
     have HN:=Lib.hid (dgs_succ hd.out ⟨by omega,by omega⟩)
     go_wp2_with fail
     go_round
     case rel => exact ⟨k + 1,by omega,HN,by first | rfl | (rw [rpTo]; go_num),by go_num⟩
     case measure => first | (simp [intOf]; done) | (simp [intOf]; omega)
  ·obtain rfl : k = t.size:=by omega
   have HQ:=Lib.hid (rp_yes hd.out)
   go_wp2_with fail
   go_ret;exact ⟨ret_int HQ.out.symm,rfl⟩
set_option maxHeartbeats 800000 in
theorem implReadDate_any (s : ByteArray) (w : World) (_hs : s.size ≤ maxLen) : Calls Tryz.prog 132 #[.string s] w fun e w' => e = .returned (.int .i64 (rdD s)) ∧ Below w.heap.size w w':=by
 unfold maxLen at _hs;have hbb:=bb_eq s;by_cases h10 : s.size = 10
 ·have e10 : ((s.size : Int) != 10) = false:=by first | (simp [h10]; done) | (simp [h10]; omega)
  have b4 : (4 : Int) < (s.size : Int):=by omega
  have b7 : (7 : Int) < (s.size : Int):=by omega
  have b4n : 4 < s.size:=by omega
  have b7n : 7 < s.size:=by omega
  by_cases h4 : bb s 4 = 46
  ·have e4 : (bb s 4 != 46) = false:=by simp [h4]
   by_cases h7 : bb s 7 = 46
   ·have e7 : (bb s 7 != 46) = false:=by simp [h7]
    have hrd:=rd_rp h10 h4 h7;have b5 : (7 : Int) ≤ (s.size : Int):=by omega
    have b6 : (4 : Int) ≤ (s.size : Int):=by omega
    have b8 : (8 : Int) ≤ (s.size : Int):=by omega
    have z1 : (s.extract 0 4).size ≤ 4:=by rw [ByteArray.size_extract]; omega
    have z2 : (s.extract 5 7).size ≤ 4:=by rw [ByteArray.size_extract]; omega
    have z3 : (s.extract 8 s.size).size ≤ 4:=by rw [ByteArray.size_extract]; omega
    clear h10 h4 h7;by_cases q1 : rpOf (s.extract 0 4) < 0
    ·have g1 : decide (rpOf (s.extract 0 4) < 0) = true:=decide_eq_true q1
     rw [if_neg (by omega)] at hrd;have HQ:=Lib.hid hrd;clear hrd;go_enter Tryz.func132,Tryz.ntmps132
     go_wp2_with fail
     go_quiet ((go_at_call 157; exact quiet_of (readPadded_any _ _ (by assumption))))
     go_wp2_with fail
     go_ret;exact ⟨ret_int HQ.out.symm,below_drewN (Below.refl _ _) _⟩
    have g1 : decide (rpOf (s.extract 0 4) < 0) = false:=decide_eq_false q1;by_cases q2 : rpOf (s.extract 5 7) < 0
    ·have g2 : decide (rpOf (s.extract 5 7) < 0) = true:=decide_eq_true q2
     rw [if_neg (by omega)] at hrd;have HQ:=Lib.hid hrd;clear hrd;go_enter Tryz.func132,Tryz.ntmps132
     go_wp2_with fail
     go_quiet ((go_at_call 157; exact quiet_of (readPadded_any _ _ (by assumption))))
     go_wp2_with fail
     go_ret;exact ⟨ret_int HQ.out.symm,below_drewN (Below.refl _ _) _⟩
    have g2 : decide (rpOf (s.extract 5 7) < 0) = false:=decide_eq_false q2;by_cases q3 : rpOf (s.extract 8 s.size) < 0
    ·have g3 : decide (rpOf (s.extract 8 s.size) < 0) = true:=decide_eq_true q3
     rw [if_neg (by omega)] at hrd;have HQ:=Lib.hid hrd;clear hrd;go_enter Tryz.func132,Tryz.ntmps132
     go_wp2_with fail
     go_quiet ((go_at_call 157; exact quiet_of (readPadded_any _ _ (by assumption))))
     go_wp2_with fail
     go_ret;exact ⟨ret_int HQ.out.symm,below_drewN (Below.refl _ _) _⟩
    have g3 : decide (rpOf (s.extract 8 s.size) < 0) = false:=decide_eq_false q3;rw [if_pos (by omega)] at hrd;have HQ:=Lib.hid hrd;clear hrd;go_enter Tryz.func132,Tryz.ntmps132
    go_wp2_with fail
    go_quiet ((go_at_call 157; exact quiet_of (readPadded_any _ _ (by assumption))))
    go_wp2_with fail
    refine (implDayNumber_b _ _ _ _).mono ?_;rintro e w' ⟨rfl,rfl⟩
    go_wp2_with fail
    go_ret;exact ⟨ret_int HQ.out.symm,below_drewN (Below.refl _ _) _⟩
   ·have e7 : (bb s 7 != 46) = true:=by simp [h7]
    have HQ:=Lib.hid (rdD_no (s:=s) (fun h => h7 h.2.2.1));clear h10 h4 h7;go_enter Tryz.func132,Tryz.ntmps132
    go_wp2_with fail
    go_ret;exact ⟨ret_int HQ.out.symm,Below.refl _ _⟩
  ·have e4 : (bb s 4 != 46) = true:=by simp [h4]
   have HQ:=Lib.hid (rdD_no (s:=s) (fun h => h4 h.2.1));clear h10 h4;go_enter Tryz.func132,Tryz.ntmps132
   go_wp2_with fail
   go_ret;exact ⟨ret_int HQ.out.symm,Below.refl _ _⟩
 ·have e10 : ((s.size : Int) != 10) = true:=by simp; omega
  have HQ:=Lib.hid (rdD_no (s:=s) (fun h => h10 h.1));clear h10;go_enter Tryz.func132,Tryz.ntmps132
  go_wp2_with fail
  go_ret;exact ⟨ret_int HQ.out.symm,Below.refl _ _⟩
def stS (s : ByteArray) : Nat → Nat × (Nat → Nat)
 | 0 => (0,fun _ => 0)
 | k + 1 => if bb s k = 46 ∧ (stS s k).1 < 2 then ((stS s k).1 + 1,(stS s k).2) else ((stS s k).1,fun j => if j = (stS s k).1 then 10 * (stS s k).2 (stS s k).1 + (bb s k - 48).toNat else (stS s k).2 j)
theorem st_dot {s : ByteArray} {k : Nat} (h : bb s k = 46) (h1 : (stS s k).1 < 2) : stS s (k + 1) = ((stS s k).1 + 1,(stS s k).2):=by rw [stS,if_pos ⟨h,h1⟩]
theorem st_dig {s : ByteArray} {k : Nat} (h : ¬ (bb s k = 46 ∧ (stS s k).1 < 2)) : stS s (k + 1) = ((stS s k).1,fun j => if j = (stS s k).1 then 10 * (stS s k).2 (stS s k).1 + (bb s k - 48).toNat else (stS s k).2 j):=by rw [stS,if_neg h]
theorem st_at (s : ByteArray) (k : Nat) : (stS s k).1 ≤ 2:=by
 induction k with
 | zero => exact Nat.zero_le _
 | succ k ih =>
  by_cases h : bb s k = 46 ∧ (stS s k).1 < 2
  ·rw [st_dot h.1 h.2]; exact h.2
  ·rw [st_dig h]; exact ih
theorem st_bound (s : ByteArray) (k : Nat) : ∀ j,(stS s k).2 j + 23 ≤ 23 * 10 ^ k:=by
 induction k with
 | zero => intro j; exact Nat.le_refl _
 | succ k ih =>
  intro j;have h1:=ih j;have h2:=ih (stS s k).1;have h3:=bb_ge s k;rw [Nat.pow_succ];by_cases h : bb s k = 46 ∧ (stS s k).1 < 2
  ·rw [st_dot h.1 h.2]; show (stS s k).2 j + 23 ≤ _; omega
  ·rw [st_dig h]
   show (if j = (stS s k).1 then _ else _) + 23 ≤ _
   split <;> omega
theorem st_small (s : ByteArray) {k : Nat} (hk : k ≤ 10) (j : Nat) : (stS s k).2 j ≤ 230000000000:=by
 have h1:=st_bound s k j;have h2 : 10 ^ k ≤ 10 ^ 10:=Nat.pow_le_pow_right (by omega) hk;omega
def StP (s : ByteArray) (k a x y z : Nat) : Prop:=(stS s k).1 = a ∧ (stS s k).2 0 = x ∧ (stS s k).2 1 = y ∧ (stS s k).2 2 = z
theorem stp_dot {s : ByteArray} {k a x y z : Nat} (h : StP s k a x y z) (hb : bb s k = 46) (ha : a < 2) : StP s (k + 1) (a + 1) x y z:=by
 obtain ⟨h1,h2,h3,h4⟩:=h;unfold StP;rw [st_dot hb (by omega)];exact ⟨by rw [h1],h2,h3,h4⟩
theorem stp_dig {s : ByteArray} {k a x y z : Nat} (h : StP s k a x y z) (hb : bb s k ≠ 46) : StP s (k + 1) a (if 0 = a then 10 * x + dgt s k else x) (if 1 = a then 10 * y + dgt s k else y) (if 2 = a then 10 * z + dgt s k else z):=by
 obtain ⟨h1,h2,h3,h4⟩:=h;unfold StP;rw [st_dig (fun q => hb q.1)];refine ⟨h1,?_,?_,?_⟩
 ·show (if 0 = (stS s k).1 then _ else _) = _
  rw [h1]; split
  ·next e => subst e; rw [h2]; rfl
  ·exact h2
 ·show (if 1 = (stS s k).1 then _ else _) = _
  rw [h1]; split
  ·next e => subst e; rw [h3]; rfl
  ·exact h3
 ·show (if 2 = (stS s k).1 then _ else _) = _
  rw [h1]; split
  ·next e => subst e; rw [h4]; rfl
  ·exact h4
theorem st_cn {s : ByteArray} (h : Cn s) : (stS s 4).1 = 0 ∧ (stS s 7).1 = 1 ∧ (stS s 10).2 0 = pY s ∧ (stS s 10).2 1 = pM s ∧ (stS s 10).2 2 = pD s:=by
 have nd : ∀ j,j < 10 → j ≠ 4 → j ≠ 7 → bb s j ≠ 46:=fun j h1 h2 h3 e => by have:=h.2.2.2 j h1 h2 h3; omega
 have p0 : StP s 0 0 0 0 0:=⟨rfl,rfl,rfl,rfl⟩;have p1:=stp_dig p0 (nd 0 (by omega) (by omega) (by omega));have p2:=stp_dig p1 (nd 1 (by omega) (by omega) (by omega));have p3:=stp_dig p2 (nd 2 (by omega) (by omega) (by omega));have p4:=stp_dig p3 (nd 3 (by omega) (by omega) (by omega));have p5:=stp_dot p4 h.2.1 (by omega);have p6:=stp_dig p5 (nd 5 (by omega) (by omega) (by omega));have p7:=stp_dig p6 (nd 6 (by omega) (by omega) (by omega));have p8:=stp_dot p7 h.2.2.1 (by omega);have p9:=stp_dig p8 (nd 8 (by omega) (by omega) (by omega));have p10:=stp_dig p9 (nd 9 (by omega) (by omega) (by omega));obtain ⟨_,q2,q3,q4⟩:=p10;refine ⟨p4.1,p7.1,?_,?_,?_⟩
 ·rw [q2]; unfold pY; simp; omega
 ·rw [q3]; unfold pM; simp; omega
 ·rw [q4]; unfold pD; simp; omega
theorem st_bad {s : ByteArray} {k : Nat} (hk : k < 10) (h1 : ¬ (bb s k = 46 ∧ (stS s k).1 < 2)) (h2 : ¬ (48 ≤ bb s k ∧ bb s k ≤ 57)) : rdD s = -1:=by
 refine rdD_no (fun hC => ?_);have hc:=st_cn hC;by_cases e4 : k = 4
 ·subst e4; exact h1 ⟨hC.2.1,by omega⟩
 ·by_cases e7 : k = 7
  ·subst e7; exact h1 ⟨hC.2.2.1,by omega⟩
  ·exact h2 (hC.2.2.2 k hk e4 e7)
theorem rd_nodate {s : ByteArray} (h : ¬ Dy ((stS s 10).2 0) ((stS s 10).2 1) ((stS s 10).2 2)) : rdD s = -1:=by
 by_cases hC : Cn s
 ·have hc:=st_cn hC
  rw [rdD_yes hC,← hc.2.2.1,← hc.2.2.2.1,← hc.2.2.2.2];exact dn_no h
 ·exact rdD_no hC
theorem rd_date {s t : ByteArray} (h : Dy ((stS s 10).2 0) ((stS s 10).2 1) ((stS s 10).2 2)) (hT : DayT (dnOf ((stS s 10).2 0) ((stS s 10).2 1) ((stS s 10).2 2)) t) : (t = s ∧ rdD s = dnOf ((stS s 10).2 0) ((stS s 10).2 1) ((stS s 10).2 2)) ∨ (t ≠ s ∧ rdD s = -1):=by
 have hp:=dn_pos h;unfold DayT at hT;rw [if_pos (dayB_yes hp.1 hp.2)] at hT;obtain ⟨y,m,r,hD,he,rfl⟩:=hT;have hi:=dn_inj hD h he;by_cases hC : Cn s
 ·have hc:=st_cn hC
  left
  have ey : y = pY s:=by omega
  have em : m = pM s:=by omega
  have er : r = pD s:=by omega
  refine ⟨by rw [ey,em,er]; exact cn_dtx hC,?_⟩;rw [rdD_yes hC,← hc.2.2.1,← hc.2.2.2.1,← hc.2.2.2.2]
 ·right
  exact ⟨fun e => hC (by rw [← e]; exact dtx_cn y m r),rdD_no hC⟩
def lC (l : Nat → Nat) (j : Nat) : Value:=.int .i64 (l j : Int)
theorem lc_next {s : ByteArray} {k : Nat} (h : stS s (k + 1) = ((stS s k).1,fun j => if j = (stS s k).1 then 10 * (stS s k).2 (stS s k).1 + (bb s k - 48).toNat else (stS s k).2 j)) (hb : 48 ≤ bb s k) {a lv : Nat} (ha : (stS s k).1 = a) (hl : (stS s k).2 (stS s k).1 = lv) (j : Nat) : (if j = a then Value.int .i64 (10 * (lv : Int) + (bb s k - 48)) else lC (stS s k).2 j) = lC (stS s (k + 1)).2 j:=by
 subst ha; subst hl
 rw [h];unfold lC
 show _ = Value.int .i64 (((if j = (stS s k).1 then 10 * (stS s k).2 (stS s k).1 + (bb s k - 48).toNat else (stS s k).2 j : Nat) : Nat) : Int)
 split
 ·congr 1; omega
 ·rfl
set_option maxHeartbeats 1600000 in
theorem specReadDate_any (s : ByteArray) (w : World) (_hs : s.size ≤ maxLen) : Calls Tryz.prog 85 #[.string s] w fun e w' => e = .returned (.int .i64 (rdD s)) ∧ Below w.heap.size w w':=by
 unfold maxLen at _hs;have hbb:=bb_eq s;by_cases h10 : s.size = 10
 ·have e10 : ((s.size : Int) != 10) = false:=by first | (simp [h10]; done) | (simp [h10]; omega)
  have o0 : Own (w.alloc (.cells #[.int .i64 0,.int .i64 0,.int .i64 0] 3)) w.heap.size 3 1 (some ⟨w.heap.size,0,none⟩) 3 3 (lC (fun _ => 0)):=Own.lit w 3 1 3 _ _ (by simp only [maxLen]; omega) rfl;have k0 : Below w.heap.size w (w.alloc (.cells #[.int .i64 0,.int .i64 0,.int .i64 0] 3)):=(Below.refl _ _).alloc (Nat.le_refl _) _;have H10:=Lib.hid h10;go_enter Tryz.func85,Tryz.ntmps85
  go_wp2_with fail
  go_loopw [4,5] (fun a i wr => ∃ k : Nat,k ≤ 10 ∧ a = .int .i64 ((stS s k).1 : Int) ∧ i = .int .i64 k ∧ Own wr w.heap.size 3 1 (some ⟨w.heap.size,0,none⟩) 3 3 (lC (stS s k).2) ∧ Below w.heap.size w wr) (fun _ i _ => 10 - (intOf i).toNat)
  case atStart => exact ⟨0,Nat.zero_le _,rfl,rfl,o0,k0⟩
  case round =>
   clear o0 k0 h10;obtain ⟨k,hk,rfl,rfl,hown,hbl⟩:=hrel;have hsz:=hbl.size;have hat:=st_at s k;have hsm:=st_small s hk;have hbg:=bb_ge s k;have hk0 : (0 : Int) ≤ (k : Int):=by omega
   by_cases hlt : k < 10
   ·have hki : (k : Int) < 10:=by omega
    have hks : (k : Int) < (s.size : Int):=by have:=H10.out; omega
    have hksn : k < s.size:=by have:=H10.out; omega
    by_cases hdt : bb s k = 46 ∧ (stS s k).1 < 2
    ·have HN:=Lib.hid (st_dot hdt.1 hdt.2)
     have g1 : (bb s k == 46) = true:=beq_iff_eq.2 hdt.1;have g2 : decide (((stS s k).1 : Int) < 2) = true:=decide_eq_true (by have:=hdt.2; omega);have g3 : ((stS s k).1 : Int) < 2:=by have:=hdt.2; omega
     clear hdt
     go_wp2_with fail
     go_roundw
     case rel => exact ⟨k + 1,by omega,by rw [HN.out]; go_num,by go_num,by rw [HN.out]; exact hown,hbl⟩
     case measure => simp [intOf]; omega
    ·have HN:=Lib.hid (st_dig hdt)
     by_cases hdg : 48 ≤ bb s k ∧ bb s k ≤ 57
     ·obtain ⟨hd1,hd2⟩:=hdg
      have g0 : (bb s k == 46) = false:=beq_eq_false_iff_ne.2 (by omega);have g1 : decide (48 ≤ bb s k) = true:=decide_eq_true hd1;have g2 : decide (bb s k ≤ 57) = true:=decide_eq_true hd2;clear hdt;have hfv:=hown.frozen rfl (stS s k).1;have hst:=hown.set rfl (j:=(stS s k).1) (.int .i64 (10 * ((stS s k).2 (stS s k).1 : Int) + (bb s k - 48)));have HS:=Lib.hid hst;have hlv:=hsm (stS s k).1;have hcv : wr.cell? ⟨w.heap.size,(stS s k).1,none⟩ = some (.int .i64 ((stS s k).2 (stS s k).1 : Int)):=hown.cell rfl (j:=(stS s k).1) (by omega);have HN1:=Lib.hid (show (stS s (k + 1)).1 = (stS s k).1 by rw [HN.out]);have HN2:=Lib.hid (fun j => lc_next HN.out hd1 rfl rfl j);clear HN;generalize hl : (stS s k).2 (stS s k).1 = lv at *
      clear hl hst;generalize ha : (stS s k).1 = a at *
      clear ha;have ha3 : (a : Int) < 3:=by omega
      have ha0 : (0 : Int) ≤ (a : Int):=by omega
      go_wp2_with fail
      go_still_tail 14,(by kernel_rfl)
      go_wp2_with fail
      go_roundw
      case rel => exact ⟨k + 1,by omega,by rw [HN1.out],by go_num,Own.congr HS.out.1 (fun j _ => HN2.out j),(hbl.setCell (p:=⟨w.heap.size,a,none⟩) (Nat.le_refl _) _).drew⟩
      case measure => simp [intOf]; omega
     ·have HQ:=Lib.hid (st_bad hlt hdt hdg)
      by_cases hd : bb s k = 46
      ·have g1 : (bb s k == 46) = true:=beq_iff_eq.2 hd
       have g2 : decide (((stS s k).1 : Int) < 2) = false:=decide_eq_false (fun q => hdt ⟨hd,by omega⟩);have g3 : decide (48 ≤ bb s k) = false:=decide_eq_false (by omega);have g5 : (stS s k).1 = 2:=by
        apply Classical.byContradiction; intro q; exact hdt ⟨hd,by omega⟩
       clear hdt hdg
       go_wp2_with fail
       go_ret;exact ⟨ret_int HQ.out.symm,hbl⟩
      ·have g1 : (bb s k == 46) = false:=beq_eq_false_iff_ne.2 hd
       clear hdt;by_cases h48 : 48 ≤ bb s k
       ·have g3 : decide (48 ≤ bb s k) = true:=decide_eq_true h48
        have g4 : decide (bb s k ≤ 57) = false:=decide_eq_false (fun q => hdg ⟨h48,q⟩);clear hdg
        go_wp2_with fail
        go_ret;exact ⟨ret_int HQ.out.symm,hbl⟩
       ·have g3 : decide (48 ≤ bb s k) = false:=decide_eq_false h48
        clear hdg
        go_wp2_with fail
        go_ret;exact ⟨ret_int HQ.out.symm,hbl⟩
   ·obtain rfl : k = 10:=by omega
    have c0 : wr.cell? ⟨w.heap.size,0,none⟩ = some (.int .i64 ((stS s 10).2 0 : Int)):=hown.cell rfl (j:=0) (by omega);have c1 : wr.cell? ⟨w.heap.size,1,none⟩ = some (.int .i64 ((stS s 10).2 1 : Int)):=hown.cell rfl (j:=1) (by omega);have c2 : wr.cell? ⟨w.heap.size,2,none⟩ = some (.int .i64 ((stS s 10).2 2 : Int)):=hown.cell rfl (j:=2) (by omega);have hcall:=fun W => specDayNumber_b ((stS s 10).2 0) ((stS s 10).2 1) ((stS s 10).2 2) W
    by_cases hD : Dy ((stS s 10).2 0) ((stS s 10).2 1) ((stS s 10).2 2)
    ·have hp:=dn_pos hD
     have HR:=Lib.hid (fun t => rd_date (s:=s) (t:=t) hD);generalize hn : dnOf ((stS s 10).2 0) ((stS s 10).2 1) ((stS s 10).2 2) = n at *
     have g1 : decide (n < 0) = false:=decide_eq_false (by omega);have HC:=Lib.hid hcall;clear hcall hn hown
     go_wp2_with fail
     go_still_tail 9,(by kernel_rfl)
     go_wp2_with fail
     refine (HC.out _).mono ?_;rintro e w1 ⟨rfl,b1⟩;have k1 : Below w.heap.size w w1:=hbl.drew.trans (b1.mono hsz)
     go_wp2_with fail
     refine (specDateText_t n w1).mono ?_;rintro e w2 ⟨⟨t,rfl,hT⟩,b2⟩;have k2:=k1.trans (b2.mono k1.size);rcases HR.out t hT with ⟨h1,h2⟩ | ⟨h1,h2⟩
     ·have q1 : (t.toList != s.toList) = false:=by rw [h1]; simp
      have q2 : (t.toList == s.toList) = true:=by rw [h1]; simp
      have HQ:=Lib.hid h2;clear h1 h2 HR hT
      go_wp2_with fail
      go_ret;exact ⟨ret_int HQ.out.symm,k2⟩
     ·have q2:=ba_ne_list h1
      have q1 : (t.toList != s.toList) = true:=by unfold bne; rw [q2]; rfl
      have HQ:=Lib.hid h2;clear h1 h2 HR hT
      go_wp2_with fail
      go_ret;exact ⟨ret_int HQ.out.symm,k2⟩
    ·have HQ:=Lib.hid (rd_nodate hD)
     rw [dn_no hD] at hcall;have HC:=Lib.hid hcall;clear hcall hown
     go_wp2_with fail
     go_still_tail 9,(by kernel_rfl)
     go_wp2_with fail
     refine (HC.out _).mono ?_;rintro e w1 ⟨rfl,b1⟩;have k1 : Below w.heap.size w w1:=hbl.drew.trans (b1.mono hsz)
     go_wp2_with fail
     go_ret;exact ⟨ret_int HQ.out.symm,k1⟩
 ·have e10 : ((s.size : Int) != 10) = true:=by simp; omega
  have HQ:=Lib.hid (rdD_no (s:=s) (fun h => h10 h.1));clear h10;go_enter Tryz.func85,Tryz.ntmps85
  go_wp2_with fail
  go_ret;exact ⟨ret_int HQ.out.symm,Below.refl _ _⟩
theorem info_Item : (Tryz.prog.info? 69).map (fun i => (i.zero,i.size,i.bytes)) = some (some (.agg #[.string ByteArray.empty,.string ByteArray.empty,.string ByteArray.empty,.int .i64 0]),4,56):=by kernel_rfl
abbrev ElItem : Type:=ByteArray × ByteArray × ByteArray × Int
def encItem (p : ElItem) : Nat → Value
 | 0 => Value.string (p.1)
 | 1 => Value.string (p.2.1)
 | 2 => Value.string (p.2.2.1)
 | _ => Value.int .i64 (p.2.2.2)
theorem encItem_one (p : ElItem) (i : Nat) : (encItem p i).oneCell' = true:=by unfold encItem; split <;> rfl

theorem stood_Item : Tryz.prog.stoodInHeld 69 = false:=by kernel_rfl
theorem guard_Item : Tryz.prog.eqGuardType Tryz.prog.depth 69 = false:=by kernel_rfl
theorem eqIn_Item (a : ByteArray) (b : ByteArray) (c : ByteArray) (d : Int) (p : ByteArray) (q : ByteArray) (r : ByteArray) (s : Int) (w : World) : (Op.equalIn 10000 69 (.agg #[.string a,.string b,.string c,.int .i64 d]) (.agg #[.string p,.string q,.string r,.int .i64 s])).run Tryz.prog w = .ok (eqEl (α:=ElItem) (a,b,c,d) (p,q,r,s)) w:=by
 rw [run_equalIn_agg w 9999 69 _ _ (by rw [Program.fieldsOf,Tryz.underlying69]) stood_Item];simp only [Program.fieldsOf,Tryz.underlying69];simp [go_sem,Tryz.underlying9,Tryz.underlying3];by_cases h0 : a = p <;> by_cases h1 : b = q <;> by_cases h2 : c = r <;> by_cases h3 : d = s <;> simp [eqEl,ba_list, *]
theorem neq_Item (a : ByteArray) (b : ByteArray) (c : ByteArray) (d : Int) (p : ByteArray) (q : ByteArray) (r : ByteArray) (s : Int) (w : World) : (binOp .neq 69 (.agg #[.string a,.string b,.string c,.int .i64 d]) (.agg #[.string p,.string q,.string r,.int .i64 s])).run Tryz.prog w = .ok (.bool (!eqEl (α:=ElItem) (a,b,c,d) (p,q,r,s))) w:=by
 rw [run_neq_struct,eqIn_Item]; rfl
theorem sameFeed_any (A A' : Option Addr) (cap cap' B : Nat) (xs ys : List ElItem) (w : World) (h : RdE 4 encItem w B A xs) (h' : RdE 4 encItem w B A' ys) (hB : B ≤ w.heap.size) (hl : xs.length ≤ 140737488351232) (hl' : ys.length ≤ 140737488351232) :
    Calls Tryz.prog 20 #[.slice A xs.length cap,.slice A' ys.length cap'] w fun e w' => e = .returned (.bool (sameB xs ys)) ∧ Below w.heap.size w w':=by
 by_cases hlen : xs.length = ys.length
 ·have HL:=Lib.hid hlen
  have hd : ((xs.length : Int) != (ys.length : Int)) = false:=by rw [hlen]; simp
  have hle : xs.length ≤ ys.length:=by omega
  clear hlen;go_enter Tryz.func20,Tryz.ntmps20
  go_wp2_with fail
  go_loopw [5] (fun i wr => ∃ k : Nat,k ≤ xs.length ∧ Hid (∀ j,j < k → gt xs j = gt ys j) ∧ i = .int .i64 k ∧ Below w.heap.size w wr) (fun i _ => xs.length - (intOf i).toNat)
  case atStart => exact ⟨0,Nat.zero_le _,Lib.hid (fun j hj => absurd hj (by omega)),rfl,Below.refl _ _⟩
  case round =>
   obtain ⟨k,hk,HO,rfl,hbl⟩:=hrel;by_cases hlt : k < xs.length
   ·obtain ⟨b,off,rfl,hb,hc⟩:=(h.below (hbl.mono hB)).at_ (by omega)
    obtain ⟨b',off',rfl,hb',hc'⟩:=(h'.below (hbl.mono hB)).at_ (by omega);have c0 : wr.cell? ⟨b,off + k * 4,none⟩ = some (Value.string ((gt xs k).1)):=hc k 0 (by omega) (by omega);have c1 : wr.cell? ⟨b,off + k * 4 + 1,none⟩ = some (Value.string ((gt xs k).2.1)):=hc k 1 (by omega) (by omega);have c2 : wr.cell? ⟨b,off + k * 4 + 2,none⟩ = some (Value.string ((gt xs k).2.2.1)):=hc k 2 (by omega) (by omega);have c3 : wr.cell? ⟨b,off + k * 4 + 3,none⟩ = some (Value.int .i64 ((gt xs k).2.2.2)):=hc k 3 (by omega) (by omega);have d0 : wr.cell? ⟨b',off' + k * 4,none⟩ = some (Value.string ((gt ys k).1)):=hc' k 0 (by omega) (by omega);have d1 : wr.cell? ⟨b',off' + k * 4 + 1,none⟩ = some (Value.string ((gt ys k).2.1)):=hc' k 1 (by omega) (by omega);have d2 : wr.cell? ⟨b',off' + k * 4 + 2,none⟩ = some (Value.string ((gt ys k).2.2.1)):=hc' k 2 (by omega) (by omega);have d3 : wr.cell? ⟨b',off' + k * 4 + 3,none⟩ = some (Value.int .i64 ((gt ys k).2.2.2)):=hc' k 3 (by omega) (by omega);have hlt' : k < ys.length:=by omega
    clear hc hc';by_cases hne : gt xs k = gt ys k
    ·have hn : eqEl (α:=ElItem) ((gt xs k).1,(gt xs k).2.1,(gt xs k).2.2.1,(gt xs k).2.2.2) ((gt ys k).1,(gt ys k).2.1,(gt ys k).2.2.1,(gt ys k).2.2.2) = true:=eqEl_true hne
     have HN:=Lib.hid hne; clear hne
     go_wp2_with fail
     have hneq:=fun w' => neq_Item (gt xs k).1 (gt xs k).2.1 (gt xs k).2.2.1 (gt xs k).2.2.2 (gt ys k).1 (gt ys k).2.1 (gt ys k).2.2.1 (gt ys k).2.2.2 w'
     have hgd:=guard_Item
     go_quiet (fail)
     go_wp2_with fail
     go_roundw
     case rel => exact ⟨k + 1,by omega,Lib.hid (fun j hj => by
      rcases Nat.lt_succ_iff_lt_or_eq.1 hj with h1 | rfl
      ·exact HO.out j h1
      ·exact HN.out),by go_num,hbl.trans (below_drewN (Below.refl _ _) _)⟩
     case measure => simp [intOf]; omega
    ·have hn : eqEl (α:=ElItem) ((gt xs k).1,(gt xs k).2.1,(gt xs k).2.2.1,(gt xs k).2.2.2) ((gt ys k).1,(gt ys k).2.1,(gt ys k).2.2.1,(gt ys k).2.2.2) = false:=eqEl_false hne
     have HN:=Lib.hid hne; clear hne
     go_wp2_with fail
     have hneq:=fun w' => neq_Item (gt xs k).1 (gt xs k).2.1 (gt xs k).2.2.1 (gt xs k).2.2.2 (gt ys k).1 (gt ys k).2.1 (gt ys k).2.2.1 (gt ys k).2.2.2 w'
     have hgd:=guard_Item
     go_quiet (fail)
     go_wp2_with fail
     go_ret;exact ⟨ret_bool (sameB_at HN.out).symm,hbl.trans (below_drewN (Below.refl _ _) _)⟩
   ·obtain rfl : k = xs.length:=by omega
    go_wp2_with fail
    go_ret;exact ⟨ret_bool (sameB_true HL.out HO.out).symm,hbl⟩
 ·have hd : ((xs.length : Int) != (ys.length : Int)) = true:=by simp; omega
  go_enter Tryz.func20,Tryz.ntmps20
  go_wp2_with fail
  go_ret;exact ⟨ret_bool (sameB_len hlen).symm,Below.refl _ _⟩
def ivB (p : ByteArray × ByteArray × ByteArray × Int) : Bool:=wordB p.1 && (textB p.2.1 && (!(p.2.1.size == 0) && (textB p.2.2.1 && dayB p.2.2.2)))
theorem tl_empty (b : ByteArray) : b.toList.isEmpty = (b.size == 0):=by
 rw [← ba_size]; cases b.toList <;> simp
theorem tl_nil {b : ByteArray} : b.toList = [] ↔ b.size = 0:=by
 rw [← ba_size]; cases b.toList <;> simp
theorem isday_e {d : Int} {s : ByteArray} (h : IsDay d s) : (s.size == 0) = !dayB d:=by
 unfold IsDay at h;cases hd : dayB d <;> simp [hd] at h <;> simp [h]
theorem implItemValid_any (a b c : ByteArray) (d : Int) (w : World) (ha : a.size ≤ maxLen) (hb : b.size ≤ maxLen) (hc : c.size ≤ maxLen) : Calls Tryz.prog 115 #[.agg #[.string a,.string b,.string c,.int .i64 d]] w fun e w' => e = .returned (.bool (ivB (a,b,c,d))) ∧ Below w.heap.size w w':=by
 cases q1 : wordB a <;> cases q2 : textB b <;> cases q3 : textB c
 all_goals
  go_enter Tryz.func115,Tryz.ntmps115
  go_wp2_with (first | (go_at_call 68; refine (implWordValid_any _ _ (by assumption)).mono ?_; rintro e w' ⟨rfl,rfl⟩) | (go_at_call 140; refine (implTextValid_any _ _ (by assumption)).mono ?_; rintro e w' ⟨rfl,rfl⟩) | (go_at_call 141; refine (implDateText_any _ _).mono ?_; rintro e w' ⟨⟨s,rfl,hs⟩,hb⟩))
  all_goals
   go_ret
   first
    | exact ⟨ret_bool (by have he:=isday_e hs; simp_all [ivB,tl_empty,tl_nil]),((Below.refl _ _).alloc (Nat.le_refl _) _).trans (hb.mono (by simp))⟩
    | exact ⟨ret_bool (by simp_all [ivB,tl_nil]),(Below.refl _ _).alloc (Nat.le_refl _) _⟩
theorem specItemValid_any (a b c : ByteArray) (d : Int) (w : World) (ha : a.size ≤ maxLen) (hb : b.size ≤ maxLen) (hc : c.size ≤ maxLen) : Calls Tryz.prog 86 #[.agg #[.string a,.string b,.string c,.int .i64 d]] w fun e w' => e = .returned (.bool (ivB (a,b,c,d))) ∧ Below w.heap.size w w':=by
 cases q1 : wordB a <;> cases q2 : textB b <;> cases q3 : textB c
 all_goals
  go_enter Tryz.func86,Tryz.ntmps86
  go_wp2_with (first | (go_at_call 119; refine (specWordValid_any _ _ (by assumption)).mono ?_; rintro e w' ⟨rfl,rfl⟩) | (go_at_call 124; refine (specTextValid_any _ _ (by assumption)).mono ?_; rintro e w' ⟨rfl,rfl⟩) | (go_at_call 123; refine (specDateText_any _ _).mono ?_; rintro e w' ⟨⟨s,rfl,hs⟩,hb⟩))
  all_goals
   go_ret
   first
    | exact ⟨ret_bool (by have he:=isday_e hs; simp_all [ivB,tl_empty,tl_nil]),((Below.refl _ _).alloc (Nat.le_refl _) _).trans (hb.mono (by simp))⟩
    | exact ⟨ret_bool (by simp_all [ivB,tl_nil]),(Below.refl _ _).alloc (Nat.le_refl _) _⟩
def nms : Nat → ByteArray
 | 0 => { data:=#[107,101,121] }
 | 1 => { data:=#[116,105,116,108,101] }
 | 2 => { data:=#[100,97,121] }
 | _ => { data:=#[98,111,100,121] }
def rsOk (xs : List ElElement) : Prop:=(∀ j,j < 3 → tnOf xs (nms j) = 1) ∧ tnOf xs (nms 3) ≤ 1
instance (xs : List ElElement) : Decidable (rsOk xs):=inferInstanceAs (Decidable ((∀ j,j < 3 → _) ∧ _))
def riI (xs : List ElElement) : ElItem:=(etOf xs (nms 0),etOf xs (nms 1),etOf xs (nms 3),rdD (etOf xs (nms 2)))
def riOk (s : ByteArray) : Bool:=elOk s && decide (rsOk (elOf s)) && ivB (riI (elOf s))
def riOf (s : ByteArray) : ElItem:=if riOk s = true then riI (elOf s) else ({ data:=#[] },{ data:=#[] },{ data:=#[] },0)
theorem ri_yes {s : ByteArray} (h1 : elOk s = true) (h2 : rsOk (elOf s)) (h3 : ivB (riI (elOf s)) = true) : riOf s = riI (elOf s) ∧ riOk s = true:=by
 have h : riOk s = true:=by unfold riOk; rw [h1,h3,decide_eq_true h2]; rfl
 exact ⟨if_pos h,h⟩
theorem ri_no {s : ByteArray} (h : elOk s = false ∨ ¬ rsOk (elOf s) ∨ ivB (riI (elOf s)) = false) : riOf s = ({ data:=#[] },{ data:=#[] },{ data:=#[] },0) ∧ riOk s = false:=by
 have h0 : riOk s = false:=by
  unfold riOk;rcases h with h | h | h
  ·rw [h]; rfl
  ·rw [decide_eq_false h,Bool.and_false,Bool.false_and]
  ·rw [h,Bool.and_false]
 exact ⟨if_neg (by rw [h0]; simp),h0⟩
theorem riOf_valid {s : ByteArray} (h : riOk s = true) : ivB (riOf s) = true:=by
 unfold riOf;rw [if_pos h];unfold riOk at h;rw [Bool.and_eq_true] at h;exact h.2
def nmC (j : Nat) : Value:=.string (nms j)
def nmB (xs : List ElElement) (j : Nat) : Bool:=if j < 3 then decide (tnOf xs (nms j) = 1) else decide (tnOf xs (nms j) ≤ 1)
def nmTo (xs : List ElElement) : Nat → Bool
 | 0 => true
 | j + 1 => nmTo xs j && nmB xs j
theorem nmTo_iff (xs : List ElElement) : ∀ k,nmTo xs k = true ↔ ∀ j,j < k → nmB xs j = true
 | 0 => by simp [nmTo]
 | k + 1 => by
  rw [nmTo,Bool.and_eq_true,nmTo_iff xs k];constructor
  ·rintro ⟨h1,h2⟩ j hj
   rcases Nat.lt_succ_iff_lt_or_eq.1 hj with h | rfl
   ·exact h1 j h
   ·exact h2
  ·intro h
   exact ⟨fun j hj => h j (by omega),h k (by omega)⟩
theorem nmTo_all (xs : List ElElement) : nmTo xs 4 = true ↔ rsOk xs:=by
 rw [nmTo_iff];constructor
 ·intro h
  refine ⟨fun j hj => ?_,?_⟩
  ·have:=h j (by omega)
   unfold nmB at this;rw [if_pos hj] at this;exact of_decide_eq_true this
  ·exact of_decide_eq_true (h 3 (by omega))
 ·rintro ⟨h1,h2⟩ j hj
  unfold nmB;by_cases h3 : j < 3
  ·rw [if_pos h3]; exact decide_eq_true (h1 j h3)
  ·obtain rfl : j = 3:=by omega
   rw [if_neg h3]; exact decide_eq_true h2
theorem nmB_no {xs : List ElElement} {j : Nat} (h : tnOf xs (nms j) ≠ 1) (h2 : 1 < tnOf xs (nms j) ∨ j < 3) : nmB xs j = false:=by
 unfold nmB
 split
 ·exact decide_eq_false h
 ·exact decide_eq_false (by omega)
theorem nmB_yes {xs : List ElElement} {j : Nat} (h : tnOf xs (nms j) = 1 ∨ (tnOf xs (nms j) = 0 ∧ ¬ j < 3)) : nmB xs j = true:=by
 unfold nmB
 split
 ·exact decide_eq_true (by omega)
 ·exact decide_eq_true (by omega)
theorem info_Handle : (Tryz.prog.info? 29).map (fun i => (i.zero,i.size,i.bytes)) = some (some (.agg #[.string ByteArray.empty,.string ByteArray.empty]),2,32):=by kernel_rfl
abbrev ElHandle : Type:=ByteArray × ByteArray
def encHandle (p : ElHandle) : Nat → Value
 | 0 => Value.string (p.1)
 | _ => Value.string (p.2)
theorem encHandle_one (p : ElHandle) (i : Nat) : (encHandle p i).oneCell' = true:=by unfold encHandle; split <;> rfl
theorem stood_Handle : Tryz.prog.stoodInHeld 29 = false:=by kernel_rfl
theorem guard_Handle : Tryz.prog.eqGuardType Tryz.prog.depth 29 = false:=by kernel_rfl
theorem eqIn_Handle (a : ByteArray) (b : ByteArray) (p : ByteArray) (q : ByteArray) (w : World) : (Op.equalIn 10000 29 (.agg #[.string a,.string b]) (.agg #[.string p,.string q])).run Tryz.prog w = .ok (eqEl (α:=ElHandle) (a,b) (p,q)) w:=by
 rw [run_equalIn_agg w 9999 29 _ _ (by rw [Program.fieldsOf,Tryz.underlying29]) stood_Handle];simp only [Program.fieldsOf,Tryz.underlying29];simp [go_sem,Tryz.underlying9];by_cases h0 : a = p <;> by_cases h1 : b = q <;> simp [eqEl,ba_list, *]
theorem neq_Handle (a : ByteArray) (b : ByteArray) (p : ByteArray) (q : ByteArray) (w : World) : (binOp .neq 29 (.agg #[.string a,.string b]) (.agg #[.string p,.string q])).run Tryz.prog w = .ok (.bool (!eqEl (α:=ElHandle) (a,b) (p,q))) w:=by
 rw [run_neq_struct,eqIn_Handle]; rfl
theorem eql_Handle (a : ByteArray) (b : ByteArray) (p : ByteArray) (q : ByteArray) (w : World) : (binOp .eql 29 (.agg #[.string a,.string b]) (.agg #[.string p,.string q])).run Tryz.prog w = .ok (.bool (eqEl (α:=ElHandle) (a,b) (p,q))) w:=by
 rw [run_eql_struct,eqIn_Handle]; rfl
theorem sameHandles_any (A A' : Option Addr) (cap cap' B : Nat) (xs ys : List ElHandle) (w : World) (h : RdE 2 encHandle w B A xs) (h' : RdE 2 encHandle w B A' ys) (hB : B ≤ w.heap.size) (hl : xs.length ≤ 140737488351232) (hl' : ys.length ≤ 140737488351232) :
    Calls Tryz.prog 19 #[.slice A xs.length cap,.slice A' ys.length cap'] w fun e w' => e = .returned (.bool (sameB xs ys)) ∧ Below w.heap.size w w':=by
 by_cases hlen : xs.length = ys.length
 ·have HL:=Lib.hid hlen
  have hd : ((xs.length : Int) != (ys.length : Int)) = false:=by rw [hlen]; simp
  have hle : xs.length ≤ ys.length:=by omega
  clear hlen;go_enter Tryz.func19,Tryz.ntmps19
  go_wp2_with fail
  go_loopw [5] (fun i wr => ∃ k : Nat,k ≤ xs.length ∧ Hid (∀ j,j < k → gt xs j = gt ys j) ∧ i = .int .i64 k ∧ Below w.heap.size w wr) (fun i _ => xs.length - (intOf i).toNat)
  case atStart => exact ⟨0,Nat.zero_le _,Lib.hid (fun j hj => absurd hj (by omega)),rfl,Below.refl _ _⟩
  case round =>
   obtain ⟨k,hk,HO,rfl,hbl⟩:=hrel;by_cases hlt : k < xs.length
   ·obtain ⟨b,off,rfl,hb,hc⟩:=(h.below (hbl.mono hB)).at_ (by omega)
    obtain ⟨b',off',rfl,hb',hc'⟩:=(h'.below (hbl.mono hB)).at_ (by omega);have c0 : wr.cell? ⟨b,off + k * 2,none⟩ = some (Value.string ((gt xs k).1)):=hc k 0 (by omega) (by omega);have c1 : wr.cell? ⟨b,off + k * 2 + 1,none⟩ = some (Value.string ((gt xs k).2)):=hc k 1 (by omega) (by omega);have d0 : wr.cell? ⟨b',off' + k * 2,none⟩ = some (Value.string ((gt ys k).1)):=hc' k 0 (by omega) (by omega);have d1 : wr.cell? ⟨b',off' + k * 2 + 1,none⟩ = some (Value.string ((gt ys k).2)):=hc' k 1 (by omega) (by omega);have hlt' : k < ys.length:=by omega
    clear hc hc';by_cases hne : gt xs k = gt ys k
    ·have hn : eqEl (α:=ElHandle) ((gt xs k).1,(gt xs k).2) ((gt ys k).1,(gt ys k).2) = true:=eqEl_true hne
     have HN:=Lib.hid hne; clear hne
     go_wp2_with fail
     have hneq:=fun w' => neq_Handle (gt xs k).1 (gt xs k).2 (gt ys k).1 (gt ys k).2 w'
     have hgd:=guard_Handle
     go_quiet (fail)
     go_wp2_with fail
     go_roundw
     case rel => exact ⟨k + 1,by omega,Lib.hid (fun j hj => by
      rcases Nat.lt_succ_iff_lt_or_eq.1 hj with h1 | rfl
      ·exact HO.out j h1
      ·exact HN.out),by go_num,hbl.trans (below_drewN (Below.refl _ _) _)⟩
     case measure => simp [intOf]; omega
    ·have hn : eqEl (α:=ElHandle) ((gt xs k).1,(gt xs k).2) ((gt ys k).1,(gt ys k).2) = false:=eqEl_false hne
     have HN:=Lib.hid hne; clear hne
     go_wp2_with fail
     have hneq:=fun w' => neq_Handle (gt xs k).1 (gt xs k).2 (gt ys k).1 (gt ys k).2 w'
     have hgd:=guard_Handle
     go_quiet (fail)
     go_wp2_with fail
     go_ret;exact ⟨ret_bool (sameB_at HN.out).symm,hbl.trans (below_drewN (Below.refl _ _) _)⟩
   ·obtain rfl : k = xs.length:=by omega
    go_wp2_with fail
    go_ret;exact ⟨ret_bool (sameB_true HL.out HO.out).symm,hbl⟩
 ·have hd : ((xs.length : Int) != (ys.length : Int)) = true:=by simp; omega
  go_enter Tryz.func19,Tryz.ntmps19
  go_wp2_with fail
  go_ret;exact ⟨ret_bool (sameB_len hlen).symm,Below.refl _ _⟩
end Go.Proofs.YtfnmlffpnmmcdaaGreatDoor
namespace Go.Proofs.YtfnmlffpnmmcdaaGreatDoor
set_option maxRecDepth 100000
def hvB (h : ElHandle) : Bool:=wordB h.1 && wordB h.2
def ltS (a b : ByteArray) : Bool:=Op.bytesLess a.toList b.toList
theorem bl_irrefl : ∀ l : List UInt8,Op.bytesLess l l = false
 | [] => rfl
 | x :: l => by rw [Op.bytesLess,bl_irrefl l]; simp
theorem bl_trans : ∀ {a b c : List UInt8},Op.bytesLess a b = true → Op.bytesLess b c = true → Op.bytesLess a c = true
 | _,[],_,h,_ => by simp [Op.bytesLess] at h
 | _,_ :: _,[],_,h => by simp [Op.bytesLess] at h
 | [],_ :: _,_ :: _,_,_ => rfl
 | x :: a,y :: b,z :: c,h,k => by
  simp only [Op.bytesLess,Bool.or_eq_true,Bool.and_eq_true,decide_eq_true_eq,beq_iff_eq] at h k ⊢;rcases h with h | ⟨rfl,h⟩
  ·rcases k with k | ⟨rfl,k⟩
   ·exact .inl (UInt8.lt_trans h k)
   ·exact .inl h
  ·rcases k with k | ⟨rfl,k⟩
   ·exact .inl k
   ·exact .inr ⟨rfl,bl_trans h k⟩
theorem ltS_irrefl (a : ByteArray) : ltS a a = false:=bl_irrefl _
theorem ltS_trans {a b c : ByteArray} (h : ltS a b = true) (k : ltS b c = true) : ltS a c = true:=bl_trans h k
def BefH (p q : ElHandle) : Prop:=ltS p.2 q.2 = true ∨ (p.2 = q.2 ∧ ltS p.1 q.1 = true)
instance (p q : ElHandle) : Decidable (BefH p q):=inferInstanceAs (Decidable (_ ∨ _))
def hbB (p q : ElHandle) : Bool:=decide (BefH p q)
theorem hbB_true {p q : ElHandle} (h : BefH p q) : hbB p q = true:=decide_eq_true h
theorem hbB_false {p q : ElHandle} (h : ¬ BefH p q) : hbB p q = false:=decide_eq_false h
theorem BefH.of {p q : ElHandle} (h : hbB p q = true) : BefH p q:=of_decide_eq_true h
theorem BefH.trans {p q r : ElHandle} (h : BefH p q) (k : BefH q r) : BefH p r:=by
 unfold BefH at *
 rcases h with h | ⟨h1,h2⟩
 ·rcases k with k | ⟨k1,k2⟩
  ·exact .inl (ltS_trans h k)
  ·exact .inl (by rw [← k1]; exact h)
 ·rcases k with k | ⟨k1,k2⟩
  ·exact .inl (by rw [h1]; exact k)
  ·exact .inr ⟨h1.trans k1,ltS_trans h2 k2⟩
theorem BefH.irrefl {p : ElHandle} : ¬ BefH p p:=by unfold BefH; rw [ltS_irrefl,ltS_irrefl]; simp
theorem hbB_ne {p q : ElHandle} (h : seq p.2 q.2 = false) : hbB p q = ltS p.2 q.2:=by
 have hn : p.2 ≠ q.2:=fun e => by rw [e] at h; simp [seq] at h
 cases hl : ltS p.2 q.2
 ·exact hbB_false (fun k => by rcases k with k | ⟨k,_⟩; (rw [hl] at k; cases k); exact hn k)
 ·exact hbB_true (.inl hl)
theorem hbB_eq {p q : ElHandle} (h : seq p.2 q.2 = true) : hbB p q = ltS p.1 q.1:=by
 have he : p.2 = q.2:=by simpa [seq] using h
 cases hl : ltS p.1 q.1
 ·exact hbB_false (fun k => by
     rcases k with k | ⟨_,k⟩
     ·rw [he,ltS_irrefl] at k; cases k
     ·rw [hl] at k; cases k)
 ·exact hbB_true (.inr ⟨he,hl⟩)
def OkFh (p : ElHandle) : Prop:=hvB p = true
def OkFAt (ps : List ElHandle) (k : Nat) : Prop:=OkFh (gt ps k) ∧ (0 < k → BefH (gt ps (k - 1)) (gt ps k))
instance (p : ElHandle) : Decidable (OkFh p):=inferInstanceAs (Decidable (_ = _))
instance (ps : List ElHandle) (k : Nat) : Decidable (OkFAt ps k):=inferInstanceAs (Decidable (_ ∧ (_ → _)))
def okFUp (ps : List ElHandle) (k : Nat) : Prop:=∀ j,j < k → OkFAt ps j
instance (ps : List ElHandle) (k : Nat) : Decidable (okFUp ps k):=Nat.decidableBallLT k (fun j _ => OkFAt ps j)
def Fv (ps : List ElHandle) : Prop:=ps.length ≤ 10 ∧ okFUp ps ps.length
instance (ps : List ElHandle) : Decidable (Fv ps):=inferInstanceAs (Decidable (_ ∧ _))
def fvB (ps : List ElHandle) : Bool:=decide (Fv ps)
theorem okFUp_succ {ps : List ElHandle} {k : Nat} (h : okFUp ps k) (h1 : OkFAt ps k) : okFUp ps (k + 1):=by
 intro j hj;rcases Nat.lt_succ_iff_lt_or_eq.1 hj with h' | rfl
 ·exact h j h'
 ·exact h1
theorem fvB_true {ps : List ElHandle} (hl : ps.length ≤ 10) (h : okFUp ps ps.length) : fvB ps = true:=decide_eq_true ⟨hl,h⟩
theorem fvB_long {ps : List ElHandle} (hl : 10 < ps.length) : fvB ps = false:=decide_eq_false fun h => by have:=h.1; omega
theorem fvB_bad {ps : List ElHandle} {k : Nat} (hk : k < ps.length) (h : ¬ OkFAt ps k) : fvB ps = false:=decide_eq_false fun hv => h (hv.2 k hk)
theorem Fv.of {ps : List ElHandle} (h : fvB ps = true) : Fv ps:=of_decide_eq_true h
theorem fvB_all {ps : List ElHandle} (h : okFUp ps ps.length) : decide ((ps.length : Int) ≤ 10) = fvB ps :=
 decide_eq_decide.2 ⟨fun hh => ⟨by omega,h⟩,fun hh => by have:=hh.1; omega⟩
theorem Fv.sorted {ps : List ElHandle} (h : Fv ps) : ∀ j i,i < j → j < ps.length → BefH (gt ps i) (gt ps j):=by
 intro j
 induction j with
 | zero => intro i hi; omega
 | succ j ih =>
  intro i hi hj;have h1:=(h.2 (j + 1) hj).2 (by omega);rw [Nat.add_sub_cancel] at h1;rcases Nat.lt_succ_iff_lt_or_eq.1 hi with h2 | rfl
  ·exact (ih i h2 (by omega)).trans h1
  ·exact h1
theorem Fv.mk {ps : List ElHandle} (hl : ps.length ≤ 10) (h1 : ∀ p ∈ ps,OkFh p) (h2 : ∀ i j,i < j → j < ps.length → BefH (gt ps i) (gt ps j)) : Fv ps :=
 ⟨hl,fun j hj => ⟨h1 _ (gt_mem hj),fun h0 => h2 _ _ (by omega) hj⟩⟩
theorem Fv.ok {ps : List ElHandle} (h : Fv ps) {p : ElHandle} (hp : p ∈ ps) : OkFh p:=by
 obtain ⟨k,hk,rfl⟩:=mem_gt hp;exact (h.2 k hk).1
def posF (ps : List ElHandle) (p : ElHandle) : Nat:=(ps.takeWhile (fun q => hbB q p)).length
theorem posF_eq : ∀ (ps : List ElHandle) (p : ElHandle) (k : Nat),k ≤ ps.length → (∀ j,j < k → hbB (gt ps j) p = true) → (k < ps.length → hbB (gt ps k) p = false) → posF ps p = k:=by
 intro ps p
 induction ps with
 | nil => intro k h _ _; simp at h; subst h; rfl
 | cons q qs ih =>
  intro k hk h1 h2;cases k with
  | zero =>
   have:=h2 (by simp);rw [gt_head] at this;simp [posF,this]
  | succ k =>
   have h0:=h1 0 (by omega);rw [gt_head] at h0;have:=ih k (by simpa using hk) (fun j hj => by have:=h1 (j + 1) (by omega); rwa [gt_cons] at this) (fun hlt => by have:=h2 (by simpa using hlt); rwa [gt_cons] at this);unfold posF at this ⊢;rw [List.takeWhile_cons,if_pos h0,List.length_cons,this]
theorem posF_le (ps : List ElHandle) (p : ElHandle) : posF ps p ≤ ps.length:=by unfold posF; exact (List.takeWhile_prefix _).length_le
def insF (ps : List ElHandle) (p : ElHandle) : List ElHandle:=ps.take (posF ps p) ++ [p] ++ ps.drop (posF ps p)
theorem insF_len (ps : List ElHandle) (p : ElHandle) : (insF ps p).length = ps.length + 1:=by
 have:=posF_le ps p;simp only [insF,List.length_append,List.length_take,List.length_drop,List.length_cons,List.length_nil];omega
def folOf (ps : List ElHandle) (p : ElHandle) : List ElHandle:=if fvB ps = true then (if fvB (insF ps p) = true then insF ps p else ps) else []
def folOk (ps : List ElHandle) (p : ElHandle) : Bool:=fvB ps && fvB (insF ps p)
theorem folOf_yes {ps : List ElHandle} {p : ElHandle} (h : fvB ps = true) (k : fvB (insF ps p) = true) : folOf ps p = insF ps p ∧ folOk ps p = true:=⟨by rw [folOf,if_pos h,if_pos k],by rw [folOk,h,k]; rfl⟩
theorem folOf_no {ps : List ElHandle} {p : ElHandle} (h : fvB ps = true) (k : fvB (insF ps p) = false) : folOf ps p = ps ∧ folOk ps p = false:=⟨by rw [folOf,if_pos h,if_neg (by rw [k]; simp)],by rw [folOk,h,k]; rfl⟩
theorem folOf_bad {ps : List ElHandle} {p : ElHandle} (h : fvB ps = false) : folOf ps p = [] ∧ folOk ps p = false:=⟨by rw [folOf,if_neg (by rw [h]; simp)],by rw [folOk,h]; rfl⟩
theorem insF_sz {ps : List ElHandle} (h : ∀ k,k < ps.length → (gt ps k).1.size ≤ maxLen ∧ (gt ps k).2.size ≤ maxLen) {p : ElHandle} (hp : p.1.size ≤ maxLen ∧ p.2.size ≤ maxLen) : ∀ k,k < (insF ps p).length → (gt (insF ps p) k).1.size ≤ maxLen ∧ (gt (insF ps p) k).2.size ≤ maxLen:=fun k hk => by
 have hm:=gt_mem hk;unfold insF at hm;simp only [List.mem_append,List.mem_singleton] at hm;rcases hm with (hm | hm) | hm
 ·obtain ⟨j,hj,e⟩:=mem_gt (List.mem_of_mem_take hm); unfold insF; rw [← e]; exact h j hj
 ·unfold insF; rw [hm]; exact hp
 ·obtain ⟨j,hj,e⟩:=mem_gt (List.mem_of_mem_drop hm); unfold insF; rw [← e]; exact h j hj
theorem fv_nil : fvB [] = true:=fvB_true (by simp) (fun j hj => by simp at hj)
theorem folOf_valid {fs : List ElHandle} {h : ElHandle} (hv : fvB fs = true) : fvB (folOf fs h) = true:=by
 unfold folOf;rw [if_pos hv]
 split
 ·next k => exact k
 ·exact hv
theorem folOf_cases (fs : List ElHandle) (h : ElHandle) : folOf fs h = [] ∨ folOf fs h = fs ∨ folOf fs h = insF fs h:=by
 unfold folOf
 split
 ·split
  ·exact .inr (.inr rfl)
  ·exact .inr (.inl rfl)
 ·exact .inl rfl
theorem insF_mem {fs : List ElHandle} {h x : ElHandle} (hx : x ∈ insF fs h) : x ∈ fs ∨ x = h:=by
 unfold insF at hx;simp only [List.mem_append,List.mem_singleton] at hx;rcases hx with (hx | hx) | hx
 ·exact .inl (List.mem_of_mem_take hx)
 ·exact .inr hx
 ·exact .inl (List.mem_of_mem_drop hx)
theorem folOf_mem {fs : List ElHandle} {h x : ElHandle} (hx : x ∈ folOf fs h) : x ∈ fs ∨ x = h:=by
 rcases folOf_cases fs h with e | e | e
 ·rw [e] at hx; cases hx
 ·rw [e] at hx; exact .inl hx
 ·rw [e] at hx; exact insF_mem hx
theorem folOf_len1 (fs : List ElHandle) (h : ElHandle) : (folOf fs h).length ≤ fs.length + 1:=by
 rcases folOf_cases fs h with e | e | e
 ·rw [e]; simp
 ·rw [e]; omega
 ·rw [e,insF_len]; omega
def OkI (xs : List ElItem) (k : Nat) : Prop:=ivB (gt xs k) = true ∧ ∀ j,j < k → (gt xs j).1 ≠ (gt xs k).1
instance (xs : List ElItem) (k : Nat) : Decidable (OkI xs k):=inferInstanceAs (Decidable (_ ∧ ∀ j,j < k → (gt xs j).1 ≠ (gt xs k).1))
def fdB (xs : List ElItem) : Bool:=vdB OkI 8 xs
theorem fd_len {xs : List ElItem} (h : fdB xs = true) : xs.length ≤ 8:=(Vd.of h).1
theorem fd_iv {xs : List ElItem} (h : fdB xs = true) {k : Nat} (hk : k < xs.length) : ivB (gt xs k) = true:=((Vd.of h).2 k hk).1
def isI (key : ByteArray) (x : ElItem) : Bool:=seq x.1 key
def itemIx (xs : List ElItem) (key : ByteArray) : Int:=ix (isI key) xs
def htOf (h : ElHandle) : ByteArray:=if hvB h = true then (({ data:=#[64] } : ByteArray) ++ h.1) ++ { data:=#[64] } ++ h.2 else { data:=#[] }
theorem htOf_yes {h : ElHandle} (hv : hvB h = true) : htOf h = (({ data:=#[64] } : ByteArray) ++ h.1) ++ { data:=#[64] } ++ h.2:=if_pos hv
theorem htOf_no {h : ElHandle} (hv : hvB h = false) : htOf h = { data:=#[] }:=if_neg (by rw [hv]; simp)
theorem hv_sizes {h : ElHandle} (hv : hvB h = true) : (1 ≤ h.1.size ∧ h.1.size ≤ 8) ∧ 1 ≤ h.2.size ∧ h.2.size ≤ 8:=by
 unfold hvB at hv;rw [Bool.and_eq_true] at hv;exact ⟨⟨(Word.of hv.1).1,(Word.of hv.1).2.1⟩,(Word.of hv.2).1,(Word.of hv.2).2.1⟩
theorem htOf_size (h : ElHandle) : (htOf h).size ≤ 18:=by
 unfold htOf
 split
 ·next hv =>
  obtain ⟨⟨_,a⟩,_,b⟩:=hv_sizes hv;rw [ByteArray.size_append,ByteArray.size_append,ByteArray.size_append]
  show 1 + h.1.size + 1 + h.2.size ≤ 18
  omega
 ·exact Nat.zero_le _
def rhK (s : ByteArray) : Nat:=fb s 64 1
def rhH (s : ByteArray) : ElHandle:=(s.extract 1 (rhK s),s.extract (rhK s + 1) s.size)
def rhOk (s : ByteArray) : Bool:=decide (bb s 0 = 64 ∧ rhK s < s.size) && hvB (rhH s)
def rhOf (s : ByteArray) : ElHandle:=if rhOk s = true then rhH s else ({ data:=#[] },{ data:=#[] })
theorem rhOk_no1 {s : ByteArray} (h : bb s 0 ≠ 64) : rhOk s = false:=by unfold rhOk; rw [decide_eq_false (fun q => h q.1)]; rfl
theorem rhOk_no2 {s : ByteArray} (h : s.size ≤ rhK s) : rhOk s = false:=by unfold rhOk; rw [decide_eq_false (fun q => by have:=q.2; omega)]; rfl
theorem rhOk_no3 {s : ByteArray} (h : hvB (rhH s) = false) : rhOk s = false:=by unfold rhOk; rw [h]; simp
theorem rhOk_yes {s : ByteArray} (h1 : bb s 0 = 64) (h2 : rhK s < s.size) (h3 : hvB (rhH s) = true) : rhOk s = true:=by unfold rhOk; rw [decide_eq_true ⟨h1,h2⟩,h3]; rfl
theorem rhOf_no {s : ByteArray} (h : rhOk s = false) : rhOf s = ({ data:=#[] },{ data:=#[] }):=if_neg (by rw [h]; simp)
theorem rhOf_yes {s : ByteArray} (h : rhOk s = true) : rhOf s = rhH s:=if_pos h
theorem rhOk_of {s : ByteArray} (h : rhOk s = true) : bb s 0 = 64 ∧ rhK s < s.size ∧ hvB (rhH s) = true:=by
 unfold rhOk at h;rw [Bool.and_eq_true,decide_eq_true_eq] at h;exact ⟨h.1.1,h.1.2,h.2⟩
theorem rhOf_hv {s : ByteArray} (h : rhOk s = true) : hvB (rhOf s) = true:=by rw [rhOf_yes h]; exact (rhOk_of h).2.2
theorem size_pos_of {s : ByteArray} {k : Nat} {c : Int} (h : bb s k = c) (hc : c ≠ 0) : k < s.size:=by
 rcases Nat.lt_or_ge k s.size with q | q
 ·exact q
 ·rw [bb_out q] at h; omega
theorem hp_one (s : ByteArray) (c : UInt8) (hc : c.toNat ≠ 0) : Lib.hasPrefix s.data.toList (ByteArray.mk #[c]).data.toList = decide (bb s 0 = (c.toNat : Int)):=by
 rw [hasPrefix_iff];refine decide_eq_decide.2 ⟨fun ⟨h1,h2⟩ => ?_,fun h => ?_⟩
 ·have hz : (ByteArray.mk #[c]).size = 1:=rfl
  rw [hz] at h1 h2;have h3 : bb (s.extract 0 1) 0 = (c.toNat : Int):=by rw [h2]; rfl
  rwa [bb_extract h1 (by omega)] at h3
 ·have h1:=size_pos_of h (by omega)
  exact ⟨h1,ext_byte h1 h⟩
theorem ht_rh {s : ByteArray} (h1 : bb s 0 = 64) (h2 : rhK s < s.size) (h3 : hvB (rhH s) = true) : htOf (rhH s) = s:=by
 have hs:=size_pos_of h1 (by omega);have hk1:=fb_ge (s:=s) (c:=64) (a:=1) (by omega);have hk2:=fb_at (s:=s) (c:=64) (a:=1) (by omega) h2;rw [htOf_yes h3]
 show (({ data:=#[64] } : ByteArray) ++ s.extract 1 (rhK s)) ++ { data:=#[64] } ++ s.extract (rhK s + 1) s.size = s
 have e1 : ({ data:=#[64] } : ByteArray) = s.extract 0 (0 + 1):=(ext_byte (c:=64) hs h1).symm;have e2 : ({ data:=#[64] } : ByteArray) = s.extract (rhK s) (rhK s + 1):=(ext_byte (c:=64) h2 hk2).symm;have hk : 1 ≤ rhK s:=hk1
 conv => lhs; lhs; rhs; rw [e2]
 conv => lhs; lhs; lhs; lhs; rw [e1]
 rw [ext_cat (by omega) hk (by omega),ext_cat (by omega) (by omega) (by omega),ext_cat (by omega) (by omega) (Nat.le_refl _),extract_all]
theorem ht_first {h : ElHandle} (hv : hvB h = true) : bb (htOf h) 0 = 64:=by
 rw [htOf_yes hv,bb_left (by rw [ByteArray.size_append,ByteArray.size_append]; show 0 < 1 + _ + _; omega),bb_left (by rw [ByteArray.size_append]; show 0 < 1 + _; omega),bb_left (by decide)];rfl
theorem ht_other {s : ByteArray} {h : ElHandle} (h1 : bb s 0 ≠ 64) (hv : hvB h = true) : htOf h ≠ s:=fun e => h1 (by rw [← e]; exact ht_first hv)
def hasK (xs : List ElItem) (key : ByteArray) : Bool:=decide (0 ≤ itemIx xs key)
def iwOf (xs : List ElItem) (key : ByteArray) : ElItem:=if hasK xs key = true then gt xs (itemIx xs key).toNat else ({ data:=#[] },{ data:=#[] },{ data:=#[] },0)
theorem ix_neg {xs : List ElItem} {key : ByteArray} (h : hasK xs key = false) : itemIx xs key = -1:=by
 have h1:=of_decide_eq_false h;have h2 : -1 ≤ itemIx xs key:=ix_lo;omega
theorem ix_pos {xs : List ElItem} {key : ByteArray} (h : hasK xs key = true) : ∃ k,k < xs.length ∧ itemIx xs key = (k : Int) ∧ gt xs k = iwOf xs key ∧ (iwOf xs key).1 = key:=by
 have h1 : 0 ≤ itemIx xs key:=of_decide_eq_true h;have h3 : itemIx xs key < xs.length:=ix_hi;rcases ix_cases (p:=isI key) (xs:=xs) with ⟨h4,_⟩ | ⟨k,hk,he,hp,_⟩
 ·unfold itemIx at h1; omega
 ·have he' : itemIx xs key = (k : Int):=he
  have hw : gt xs k = iwOf xs key:=by unfold iwOf; rw [if_pos h,he',Int.toNat_natCast]
  exact ⟨k,hk,he',hw,by rw [← hw]; exact seq_true.1 hp⟩
theorem iw_no {xs : List ElItem} {key : ByteArray} (h : hasK xs key = false) : iwOf xs key = ({ data:=#[] },{ data:=#[] },{ data:=#[] },0):=if_neg (by rw [h]; simp)
theorem iw_at {xs : List ElItem} {key : ByteArray} {k : Nat} (hk : k < xs.length) (h1 : ∀ j,j < k → isI key (gt xs j) = false) (h2 : isI key (gt xs k) = true) : hasK xs key = true ∧ iwOf xs key = gt xs k:=by
 have he : itemIx xs key = (k : Int):=ix_at hk h1 h2;have hh : hasK xs key = true:=decide_eq_true (by rw [he]; omega);exact ⟨hh,by unfold iwOf; rw [if_pos hh,he,Int.toNat_natCast]⟩
theorem hasK_no {xs : List ElItem} {key : ByteArray} (h1 : ∀ j,j < xs.length → isI key (gt xs j) = false) : hasK xs key = false:=decide_eq_false (by
 have : itemIx xs key = -1:=ix_none h1
 omega)
theorem hasK_mem {xs : List ElItem} {key : ByteArray} : hasK xs key = true ↔ ∃ x ∈ xs,x.1 = key:=by
 constructor
 ·intro h
  obtain ⟨k,hk,_,hw,he⟩:=ix_pos h;exact ⟨gt xs k,gt_mem hk,by rw [hw]; exact he⟩
 ·rintro ⟨x,hx,rfl⟩
  obtain ⟨k,hk,rfl⟩:=mem_gt hx;cases h : hasK xs (gt xs k).1
  ·have h1:=ix_neg h
   rcases ix_cases (p:=isI (gt xs k).1) (xs:=xs) with ⟨_,h4⟩ | ⟨j,_,he,_⟩
   ·have:=h4 k hk
    unfold isI at this;rw [seq_self] at this; cases this
   ·unfold itemIx at h1; omega
  ·rfl
section
variable {α : Type}
def selTo (p : α → Bool) (xs : List α) (k : Nat) : List α:=(xs.take k).filter p
theorem selTo_zero (p : α → Bool) (xs : List α) : selTo p xs 0 = []:=rfl
variable [Inhabited α]
theorem selTo_is {p : α → Bool} {xs : List α} {k : Nat} (hk : k < xs.length) (h : p (gt xs k) = true) : selTo p xs (k + 1) = selTo p xs k ++ [gt xs k]:=by
 unfold selTo; rw [take_snoc hk,List.filter_append]; simp [h]
theorem selTo_not {p : α → Bool} {xs : List α} {k : Nat} (hk : k < xs.length) (h : p (gt xs k) = false) : selTo p xs (k + 1) = selTo p xs k:=by
 unfold selTo; rw [take_snoc hk,List.filter_append]; simp [h]
end
theorem selTo_all {α : Type} (p : α → Bool) (xs : List α) : selTo p xs xs.length = xs.filter p:=by unfold selTo; rw [List.take_length]
def nwP (bs : List ElItem) (i : ElItem) : Bool:=!hasK bs i.1
def nwOf (bs ns : List ElItem) : List ElItem:=ns.filter (nwP bs)
def chP (bs : List ElItem) (i : ElItem) : Bool:=hasK bs i.1 && !eqEl (iwOf bs i.1) i
def chOf (bs ns : List ElItem) : List ElItem:=ns.filter (chP bs)
def gkOf (bs ns : List ElItem) : List ByteArray:=(nwOf ns bs).map (·.1)
def mfI (ns : List ElItem) (i : ElItem) : ElItem:=if hasK ns i.1 = true then iwOf ns i.1 else i
def mfL (bs ns : List ElItem) : List ElItem:=bs.map (mfI ns) ++ nwOf bs ns
def mfOf (bs ns : List ElItem) : List ElItem:=if (mfL bs ns).length ≤ 8 then mfL bs ns else []
theorem nwOf_len (bs ns : List ElItem) : (nwOf bs ns).length ≤ ns.length:=List.length_filter_le _ _
theorem chOf_len (bs ns : List ElItem) : (chOf bs ns).length ≤ ns.length:=List.length_filter_le _ _
theorem gkOf_len (bs ns : List ElItem) : (gkOf bs ns).length ≤ bs.length:=by unfold gkOf; rw [List.length_map]; exact nwOf_len _ _
theorem mfI_key (ns : List ElItem) (i : ElItem) : (mfI ns i).1 = i.1:=by
 unfold mfI
 split
 ·next h => obtain ⟨_,_,_,_,he⟩:=ix_pos h; exact he
 ·rfl
theorem mfI_ok {ns : List ElItem} {i : ElItem} (ha : fdB ns = true) (hi : ivB i = true) : ivB (mfI ns i) = true:=by
 unfold mfI
 split
 ·next h => obtain ⟨k,hk,_,hw,_⟩:=ix_pos h; rw [← hw]; exact fd_iv ha hk
 ·exact hi
theorem gt_el {xs : List ElItem} {k : Nat} (h : k < xs.length) : gt xs k = xs[k]:=by unfold gt; rw [List.getElem?_eq_getElem h]; rfl
theorem fd_mk {xs : List ElItem} (hl : xs.length ≤ 8) (h1 : ∀ x ∈ xs,ivB x = true) (h2 : xs.Pairwise (fun a b => a.1 ≠ b.1)) : fdB xs = true :=
 vdB_true ⟨hl,fun k hk => ⟨h1 _ (gt_mem hk),fun j hj => by
  have:=List.pairwise_iff_getElem.1 h2 j k (by omega) hk hj
  rw [← gt_el,← gt_el] at this; exact this⟩⟩
theorem fd_pair {xs : List ElItem} (h : fdB xs = true) : xs.Pairwise (fun a b => a.1 ≠ b.1):=List.pairwise_iff_getElem.2 fun i j hi hj hij => by
 rw [← gt_el hi,← gt_el hj]; exact ((Vd.of h).2 j hj).2 i hij
theorem fd_all {xs : List ElItem} (h : fdB xs = true) : ∀ x ∈ xs,ivB x = true:=fun x hx => by
 obtain ⟨k,hk,rfl⟩:=mem_gt hx;exact fd_iv h hk
theorem fd_part {fs gs : List ElItem} (h : fdB fs = true) (hs : gs.Sublist fs) : fdB gs = true :=
 fd_mk (by have:=fd_len h; have:=hs.length_le; omega) (fun x hx => fd_all h x (hs.subset hx)) ((fd_pair h).sublist hs)
theorem fd_one {i : ElItem} (h : ivB i = true) : fdB [i] = true:=fd_mk (by simp) (fun x hx => by rw [List.mem_singleton] at hx; rw [hx]; exact h) (List.pairwise_singleton _ _)
theorem mfOf_fd {bs ns : List ElItem} (hb : fdB bs = true) (ha : fdB ns = true) : fdB (mfOf bs ns) = true:=by
 unfold mfOf
 split
 ·next hl =>
  refine fd_mk hl (fun x hx => ?_) ?_
  ·rcases List.mem_append.1 hx with h | h
   ·obtain ⟨i,hi,rfl⟩:=List.mem_map.1 h
    exact mfI_ok ha (fd_all hb i hi)
   ·exact fd_all ha x (List.mem_filter.1 h).1
  ·refine List.pairwise_append.2 ⟨?_,(fd_pair ha).sublist List.filter_sublist,fun x hx y hy => ?_⟩
   ·refine List.pairwise_map.2 ((fd_pair hb).imp fun h => ?_)
    rw [mfI_key,mfI_key]; exact h
   ·obtain ⟨i,hi,rfl⟩:=List.mem_map.1 hx
    rw [mfI_key];intro e;have h1:=(List.mem_filter.1 hy).2;unfold nwP at h1;rw [hasK_mem.2 ⟨i,hi,e⟩] at h1; cases h1
 ·exact fd_mk (by simp) (fun x hx => by cases hx) List.Pairwise.nil
abbrev ElAct:=Int × Int × ByteArray × ByteArray × ByteArray
def encAct (x : ElAct) : Nat → Value
 | 0 => .int .i64 x.1
 | 1 => .int .i64 x.2.1
 | 2 => .string x.2.2.1
 | 3 => .string x.2.2.2.1
 | _ => .string x.2.2.2.2
theorem encAct_one (x : ElAct) (i : Nat) : (encAct x i).oneCell' = true:=by unfold encAct; split <;> rfl
def acts (who : ElHandle) (n : Int) (ks : List (Int × ByteArray)) : List ElAct:=ks.zipIdx.map fun p => (p.1.1,n + (p.2 : Int),who.1,who.2,p.1.2)
theorem acts_len (who : ElHandle) (n : Int) (ks : List (Int × ByteArray)) : (acts who n ks).length = ks.length:=by simp [acts]
theorem acts_snoc (who : ElHandle) (n : Int) (ks : List (Int × ByteArray)) (x : Int × ByteArray) : acts who n (ks ++ [x]) = acts who n ks ++ [(x.1,n + (ks.length : Int),who.1,who.2,x.2)]:=by
 simp [acts,List.zipIdx_append]
theorem acts_head (who : ElHandle) (n : Int) {ks : List (Int × ByteArray)} (h : 0 < ks.length) : gt (acts who n ks) 0 = ((gt ks 0).1,n,who.1,who.2,(gt ks 0).2):=by
 cases ks with
 | nil => exact absurd h (by simp)
 | cons x r => simp [acts,gt]
def kk (c : Int) (xs : List ElItem) : List (Int × ByteArray):=xs.map fun i => (c,i.1)
def kg (xs : List ByteArray) : List (Int × ByteArray):=xs.map fun k => (2,k)
def tcK (bs ns : List ElItem) : List (Int × ByteArray):=kk 0 (nwOf bs ns) ++ kk 1 (chOf bs ns) ++ kg (gkOf bs ns)
def tcOf (who : ElHandle) (n : Int) (bs ns : List ElItem) : List ElAct:=acts who n (tcK bs ns)
theorem tcK_mem {bs ns : List ElItem} (hb : fdB bs = true) (ha : fdB ns = true) {p : Int × ByteArray} (hp : p ∈ tcK bs ns) : (p.1 = 0 ∨ p.1 = 1 ∨ p.1 = 2) ∧ wordB p.2 = true:=by
 have hw : ∀ {xs : List ElItem} {x : ElItem},fdB xs = true → x ∈ xs → wordB x.1 = true:=fun h hx => by
  have h1:=fd_all h _ hx;unfold ivB at h1;simp only [Bool.and_eq_true] at h1
  first | exact h1.1 | exact h1.1.1 | exact h1.1.1.1 | exact h1.1.1.1.1
 unfold tcK at hp;rcases List.mem_append.1 hp with hp | hp
 ·rcases List.mem_append.1 hp with hp | hp
  ·obtain ⟨i,hi,rfl⟩:=List.mem_map.1 hp
   exact ⟨.inl rfl,hw ha (List.mem_filter.1 hi).1⟩
  ·obtain ⟨i,hi,rfl⟩:=List.mem_map.1 hp
   exact ⟨.inr (.inl rfl),hw ha (List.mem_filter.1 hi).1⟩
 ·obtain ⟨k,hk,rfl⟩:=List.mem_map.1 hp
  obtain ⟨i,hi,rfl⟩:=List.mem_map.1 hk;exact ⟨.inr (.inr rfl),hw hb (List.mem_filter.1 hi).1⟩
section
variable {α : Type} [Inhabited α] {p : α → Bool} {xs : List α}
theorem filter_keep (h : ∀ j,j < xs.length → p (gt xs j) = false) : xs.filter (fun x => !p x) = xs:=List.filter_eq_self.2 fun x hx => by
 obtain ⟨k,hk,rfl⟩:=mem_gt hx;rw [h k hk]; rfl
theorem filter_without {k : Nat} (hk : k < xs.length) (h1 : ∀ j,j < k → p (gt xs j) = false) (h2 : p (gt xs k) = true) (h3 : ∀ j,k < j → j < xs.length → p (gt xs j) = false) : xs.filter (fun x => !p x) = xs.take k ++ xs.drop (k + 1):=by
 have e : xs = xs.take k ++ (gt xs k :: xs.drop (k + 1)):=by
  have h : gt xs k = xs[k]:=by unfold gt; rw [List.getElem?_eq_getElem hk]; rfl
  rw [h,← List.drop_eq_getElem_cons hk,List.take_append_drop]
 have ht : (xs.take k).filter (fun x => !p x) = xs.take k:=filter_keep fun j hj => by
  rw [List.length_take] at hj;rw [gt_take (by omega)];exact h1 j (by omega)
 have hd : (xs.drop (k + 1)).filter (fun x => !p x) = xs.drop (k + 1):=filter_keep fun j hj => by
  rw [List.length_drop] at hj;rw [gt_drop];exact h3 _ (by omega) (by omega)
 rw [show xs.filter (fun x => !p x) = (xs.take k ++ (gt xs k :: xs.drop (k + 1))).filter (fun x => !p x) by rw [← e],List.filter_append,ht,List.filter_cons,if_neg (by rw [h2]; simp),hd]
end
theorem filter_without_len {α : Type} {xs : List α} {k : Nat} (hk : k < xs.length) : (xs.take k ++ xs.drop (k + 1)).length < xs.length:=by simp; omega
def isH (h x : ElHandle) : Bool:=eqEl x h
def ufOf (fs : List ElHandle) (h : ElHandle) : List ElHandle:=fs.filter (fun x => !isH h x)
def ufOk (fs : List ElHandle) (h : ElHandle) : Bool:=decide ((ufOf fs h).length < fs.length)
theorem isH_at {h x : ElHandle} : isH h x = true ↔ x = h:=by unfold isH eqEl; simp
theorem uf_no {fs : List ElHandle} {h : ElHandle} (hn : ix (isH h) fs = -1) : ufOf fs h = fs ∧ ufOk fs h = false:=by
 have hk : ufOf fs h = fs:=filter_keep fun j hj => by
  rcases ix_cases (p:=isH h) (xs:=fs) with ⟨_,h2⟩ | ⟨k,_,he,_⟩
  ·exact h2 j hj
  ·omega
 refine ⟨hk,?_⟩;unfold ufOk;rw [hk];exact decide_eq_false (Nat.lt_irrefl _)
theorem uf_at {fs : List ElHandle} {h : ElHandle} (hv : fvB fs = true) {k : Nat} (he : ix (isH h) fs = (k : Int)) : k < fs.length ∧ ufOf fs h = fs.take k ++ fs.drop (k + 1) ∧ ufOk fs h = true:=by
 rcases ix_cases (p:=isH h) (xs:=fs) with ⟨h1,_⟩ | ⟨j,hj,he2,hp,hb⟩
 ·omega
 ·obtain rfl : j = k:=by omega
  have hk : ufOf fs h = fs.take j ++ fs.drop (j + 1):=filter_without hj hb hp fun i hi hil => by
   have hs:=(Fv.of hv).sorted i j hi hil;cases hq : isH h (gt fs i)
   ·rfl
   ·rw [isH_at.1 hp,isH_at.1 hq] at hs
    exact absurd hs BefH.irrefl
  refine ⟨hj,hk,?_⟩;unfold ufOk;rw [hk];exact decide_eq_true (filter_without_len hj)
theorem fv_part {fs gs : List ElHandle} (h : fvB fs = true) (hs : gs.Sublist fs) : fvB gs = true:=by
 have hd : fs.Pairwise BefH:=List.pairwise_iff_getElem.2 fun i j hi hj hij => by
  have:=(Fv.of h).sorted j i hij hj;rw [show gt fs i = fs[i] by unfold gt; rw [List.getElem?_eq_getElem hi]; rfl,show gt fs j = fs[j] by unfold gt; rw [List.getElem?_eq_getElem hj]; rfl] at this;exact this
 have hd2:=hd.sublist hs;have hl:=(Fv.of h).1;have hl2:=hs.length_le
 exact decide_eq_true (Fv.mk (by omega) (fun p hp => (Fv.of h).ok (hs.subset hp)) fun i j hij hj => by
  have:=List.pairwise_iff_getElem.1 hd2 i j (by omega) hj hij;rw [show gt gs i = gs[i] by unfold gt; rw [List.getElem?_eq_getElem (by omega)]; rfl,show gt gs j = gs[j] by unfold gt; rw [List.getElem?_eq_getElem hj]; rfl]
  exact this)
theorem ufOf_fv {fs : List ElHandle} {h : ElHandle} (hv : fvB fs = true) : fvB (ufOf fs h) = true:=fv_part hv List.filter_sublist
theorem fv_sz {fs : List ElHandle} (h : fvB fs = true) : ∀ k,k < fs.length → (gt fs k).1.size ≤ maxLen ∧ (gt fs k).2.size ≤ maxLen:=fun k hk => by
 have h1:=(Fv.of h).ok (gt_mem hk);have h2 : hvB (gt fs k) = true:=h1;obtain ⟨⟨_,z0⟩,_,z1⟩:=hv_sizes h2;unfold maxLen; omega
def kwOf : Nat → ByteArray
 | 0 => { data:=#[99,114,101,97,116,101] }
 | 1 => { data:=#[117,112,100,97,116,101] }
 | 2 => { data:=#[100,101,108,101,116,101] }
 | 3 => { data:=#[102,111,108,108,111,119] }
 | 4 => { data:=#[97,99,99,101,112,116] }
 | _ => { data:=#[117,110,100,111] }
theorem kwOf_size (k : Nat) : (kwOf k).size ≤ 6:=by unfold kwOf; split <;> decide
def acB (kind num : Int) (who : ElHandle) (what : ByteArray) : Bool:=inB kind 0 5 && (inB num 0 1000000000 && (hvB who && wordB what))
theorem acB_1 {kind : Int} (num : Int) (who : ElHandle) (what : ByteArray) (h : inB kind 0 5 = false) : acB kind num who what = false:=by unfold acB; rw [h]; rfl
theorem acB_2 (kind : Int) {num : Int} (who : ElHandle) (what : ByteArray) (h : inB num 0 1000000000 = false) : acB kind num who what = false:=by unfold acB; rw [h]; simp
theorem acB_3 (kind num : Int) {who : ElHandle} (what : ByteArray) (h : hvB who = false) : acB kind num who what = false:=by unfold acB; rw [h]; simp
theorem acB_4 {kind num : Int} {who : ElHandle} (what : ByteArray) (h1 : inB kind 0 5 = true) (h2 : inB num 0 1000000000 = true) (h3 : hvB who = true) : acB kind num who what = wordB what:=by unfold acB; rw [h1,h2,h3]; rfl
theorem acB_of {kind num : Int} {who : ElHandle} {what : ByteArray} (h : acB kind num who what = true) : (0 ≤ kind ∧ kind ≤ 5) ∧ (0 ≤ num ∧ num ≤ 1000000000) ∧ hvB who = true ∧ wordB what = true:=by
 unfold acB inB at h;simp only [Bool.and_eq_true,decide_eq_true_eq] at h;exact ⟨h.1,h.2.1,h.2.2.1,h.2.2.2⟩
def acOf (kind : Nat) (num : Int) (who : ElHandle) (what : ByteArray) : ByteArray:=kwOf kind ++ { data:=#[32] } ++ mkOf num ++ { data:=#[32] } ++ htOf who ++ { data:=#[32] } ++ what
end Go.Proofs.YtfnmlffpnmmcdaaGreatDoor
namespace Go.Proofs.YtfnmlffpnmmcdaaGreatDoor
set_option maxRecDepth 100000
open Go.RowKit
theorem implHandleValid_any (a b : ByteArray) (w : World) (ha : a.size ≤ maxLen) (hb : b.size ≤ maxLen) : Calls Tryz.prog 64 #[.agg #[.string a,.string b]] w fun e w' => e = .returned (.bool (hvB (a,b))) ∧ w' = w.alloc (.cells #[.string a,.string b] 29):=by
 cases q1 : wordB a <;> cases q2 : wordB b
 all_goals
  have HQ:=Lib.hid (show hvB (a,b) = _ by unfold hvB; rw [show (a,b).1 = a from rfl,show (a,b).2 = b from rfl,q1,q2]);go_enter Tryz.func64,Tryz.ntmps64
  go_wp2_with (go_at_call 68; refine (implWordValid_any _ _ (by assumption)).mono ?_; rintro e w' ⟨rfl,rfl⟩)
  go_ret;exact ⟨ret_bool HQ.out.symm,rfl⟩
theorem specHandleValid_any (a b : ByteArray) (w : World) (ha : a.size ≤ maxLen) (hb : b.size ≤ maxLen) : Calls Tryz.prog 78 #[.agg #[.string a,.string b]] w fun e w' => e = .returned (.bool (hvB (a,b))) ∧ w' = w.alloc (.cells #[.string a,.string b] 29):=by
 cases q1 : wordB a <;> cases q2 : wordB b
 all_goals
  have HQ:=Lib.hid (show hvB (a,b) = _ by unfold hvB; rw [show (a,b).1 = a from rfl,show (a,b).2 = b from rfl,q1,q2]);go_enter Tryz.func78,Tryz.ntmps78
  go_wp2_with (go_at_call 119; refine (specWordValid_any _ _ (by assumption)).mono ?_; rintro e w' ⟨rfl,rfl⟩)
  go_ret;exact ⟨ret_bool HQ.out.symm,rfl⟩
theorem implHandleValid_b (a b : ByteArray) (w : World) (ha : a.size ≤ maxLen) (hb : b.size ≤ maxLen) : Calls Tryz.prog 64 #[.agg #[.string a,.string b]] w fun e w' => e = .returned (.bool (hvB (a,b))) ∧ Below w.heap.size w w':=(implHandleValid_any a b w ha hb).mono (by rintro e w' ⟨rfl,rfl⟩; exact ⟨rfl,(Below.refl _ _).alloc (Nat.le_refl _) _⟩)
theorem specHandleValid_b (a b : ByteArray) (w : World) (ha : a.size ≤ maxLen) (hb : b.size ≤ maxLen) : Calls Tryz.prog 78 #[.agg #[.string a,.string b]] w fun e w' => e = .returned (.bool (hvB (a,b))) ∧ Below w.heap.size w w':=(specHandleValid_any a b w ha hb).mono (by rintro e w' ⟨rfl,rfl⟩; exact ⟨rfl,(Below.refl _ _).alloc (Nat.le_refl _) _⟩)
end Go.Proofs.YtfnmlffpnmmcdaaGreatDoor
namespace Go.Proofs.YtfnmlffpnmmcdaaGreatDoor
set_option maxRecDepth 100000
open Go.RowKit
set_option maxHeartbeats 400000 in
theorem itemNumber_any (A : Option Addr) (cap B : Nat) (xs : List ElItem) (key : ByteArray) (w : World) (h : RdE 4 encItem w B A xs) (hB : B ≤ w.heap.size) (hl : xs.length ≤ 140737488351232) :
    Calls Tryz.prog 103 #[.slice A xs.length cap,.string key] w fun e w' => e = .returned (.int .i64 (itemIx xs key)) ∧ Below w.heap.size w w':=by
 go_enter Tryz.func103,Tryz.ntmps103
 go_wp2_with fail
 go_loopw [9] (fun i wr => ∃ k : Nat,k ≤ xs.length ∧ Hid (∀ j,j < k → isI key (gt xs j) = false) ∧ i = .int .i64 k ∧ Below w.heap.size w wr) (fun i _ => xs.length - (intOf i).toNat)
 case atStart => exact ⟨0,Nat.zero_le _,Lib.hid (fun j hj => absurd hj (by omega)),rfl,Below.refl _ _⟩
 case round =>
  obtain ⟨k,hk,hno,rfl,hbl⟩:=hrel;by_cases hlt : k < xs.length
  ·obtain ⟨b,off,rfl,hb,hc⟩:=(h.below (hbl.mono hB)).at_ (by omega)
   have e0 : (wr.alloc (.cells #[.string (gt xs k).1,.string (gt xs k).2.1,.string (gt xs k).2.2.1,.int .i64 (gt xs k).2.2.2] 69)).cell? ⟨wr.heap.size,0,none⟩ = some (Value.string (gt xs k).1):=by rw [World.cell?_alloc_at _ _ _ _ rfl]; rfl
   have e1 : (wr.alloc (.cells #[.string (gt xs k).1,.string (gt xs k).2.1,.string (gt xs k).2.2.1,.int .i64 (gt xs k).2.2.2] 69)).cell? ⟨wr.heap.size,1,none⟩ = some (Value.string (gt xs k).2.1):=by rw [World.cell?_alloc_at _ _ _ _ rfl]; rfl
   have e2 : (wr.alloc (.cells #[.string (gt xs k).1,.string (gt xs k).2.1,.string (gt xs k).2.2.1,.int .i64 (gt xs k).2.2.2] 69)).cell? ⟨wr.heap.size,2,none⟩ = some (Value.string (gt xs k).2.2.1):=by rw [World.cell?_alloc_at _ _ _ _ rfl]; rfl
   have e3 : (wr.alloc (.cells #[.string (gt xs k).1,.string (gt xs k).2.1,.string (gt xs k).2.2.1,.int .i64 (gt xs k).2.2.2] 69)).cell? ⟨wr.heap.size,3,none⟩ = some (Value.int .i64 (gt xs k).2.2.2):=by rw [World.cell?_alloc_at _ _ _ _ rfl]; rfl
   have c0 : wr.cell? ⟨b,off + k * 4,none⟩ = some (Value.string (gt xs k).1):=hc k 0 (by omega) (by omega);have c1 : wr.cell? ⟨b,off + k * 4 + 1,none⟩ = some (Value.string (gt xs k).2.1):=hc k 1 (by omega) (by omega);have c2 : wr.cell? ⟨b,off + k * 4 + 2,none⟩ = some (Value.string (gt xs k).2.2.1):=hc k 2 (by omega) (by omega);have c3 : wr.cell? ⟨b,off + k * 4 + 3,none⟩ = some (Value.int .i64 (gt xs k).2.2.2):=hc k 3 (by omega) (by omega);clear hc;by_cases hq : isI key (gt xs k) = true
   ·have q0 : ((gt xs k).1.toList == key.toList) = true:=by rw [seq_eql]; exact hq
    have HQ:=Lib.hid (ix_at hlt hno.out hq);clear hq
    go_wp2_with fail
    go_ret;exact ⟨ret_int HQ.out.symm,hbl.alloc hbl.size _⟩
   ·have hq' : isI key (gt xs k) = false:=by simpa using hq
    have q0 : ((gt xs k).1.toList == key.toList) = false:=by rw [seq_eql]; exact hq'
    clear hq
    go_wp2_with fail
    go_roundw
    case rel => exact ⟨k + 1,by omega,Lib.hid (fun j hj => by
     rcases Nat.lt_succ_iff_lt_or_eq.1 hj with h1 | rfl
     ·exact hno.out j h1
     ·exact hq'),by go_num,hbl.alloc hbl.size _⟩
    case measure => simp [intOf]; omega
  ·obtain rfl : k = xs.length:=by omega
   go_wp2_with fail
   go_ret;exact ⟨ret_int (ix_none hno.out).symm,hbl⟩
set_option maxHeartbeats 1600000 in
theorem specFeedValid_any (A : Option Addr) (cap B : Nat) (xs : List ElItem) (w : World) (h : RdE 4 encItem w B A xs) (hB : B ≤ w.heap.size) (hl : xs.length ≤ 140737488351232) (hsz : ∀ k,k < xs.length → (gt xs k).1.size ≤ maxLen ∧ (gt xs k).2.1.size ≤ maxLen ∧ (gt xs k).2.2.1.size ≤ maxLen) :
    Calls Tryz.prog 79 #[.slice A xs.length cap] w fun e w' => e = .returned (.bool (fdB xs)) ∧ Below w.heap.size w w':=by
 have HD:=Lib.hid hsz;clear hsz;go_enter Tryz.func79,Tryz.ntmps79
 go_wp2_with fail
 go_loopw [3,4] (fun i _ wr => ∃ k : Nat,k ≤ xs.length ∧ Hid (upTo OkI xs k) ∧ i = .int .i64 k ∧ Below w.heap.size w wr) (fun i _ _ => xs.length - (intOf i).toNat)
 case atStart => exact ⟨0,Nat.zero_le _,Lib.hid upTo_zero,rfl,Below.refl _ _⟩
 case round =>
  obtain ⟨k,hk,hok,rfl,hbl⟩:=hrel;have hsw:=hbl.size;by_cases hlt : k < xs.length
  ·obtain ⟨z0,z1,z2⟩:=HD.out k hlt
   obtain ⟨b,off,rfl,hb,hc⟩:=(h.below (hbl.mono hB)).at_ (by omega);have c0 : wr.cell? ⟨b,off + k * 4,none⟩ = some (Value.string (gt xs k).1):=hc k 0 (by omega) (by omega);have c1 : wr.cell? ⟨b,off + k * 4 + 1,none⟩ = some (Value.string (gt xs k).2.1):=hc k 1 (by omega) (by omega);have c2 : wr.cell? ⟨b,off + k * 4 + 2,none⟩ = some (Value.string (gt xs k).2.2.1):=hc k 2 (by omega) (by omega);have c3 : wr.cell? ⟨b,off + k * 4 + 3,none⟩ = some (Value.int .i64 (gt xs k).2.2.2):=hc k 3 (by omega) (by omega);have HC:=Lib.hid hc;clear hc;by_cases hv : ivB (gt xs k) = true
   ·have HV:=Lib.hid hv
    go_wp2_with fail
    refine (specItemValid_any (gt xs k).1 (gt xs k).2.1 (gt xs k).2.2.1 (gt xs k).2.2.2 wr z0 z1 z2).mono ?_;rintro e w1 ⟨rfl,hb1⟩;have hs1:=hb1.size;have hbl1:=hbl.trans (hb1.mono hsw);rw [show ivB ((gt xs k).1,(gt xs k).2.1,(gt xs k).2.2.1,(gt xs k).2.2.2) = true from hv];have f0:=cellOn c0 (by show b < _; omega) hb1;clear hv c0 c1 c2 c3
    go_wp2_with fail
    obtain ⟨wo,rfl⟩ : ∃ wo : World,wo = w1:=⟨_,rfl⟩;have hblo:=hbl1;have HCo : Hid (∀ (k i : Nat),k < xs.length → i < 4 → wo.cell? ⟨b,off + (k * 4 + i),none⟩ = some (encItem (gt xs k) i)):=Lib.hid (fun q i hq hi => cellOn (HC.out q i hq hi) (by show b < _; omega) hb1);have hbsz : b < wo.heap.size:=by omega
    clear HC hbl hbl1 hb1 f0
    go_loopw [4] (fun i wr => ∃ j : Nat,j ≤ k ∧ Hid (∀ q,q < j → (gt xs q).1 ≠ (gt xs k).1) ∧ i = .int .i64 j ∧ Below wo.heap.size wo wr) (fun i _ => k - (intOf i).toNat)
    case atStart => exact ⟨0,Nat.zero_le _,Lib.hid (fun j hj => absurd hj (by omega)),rfl,Below.refl _ _⟩
    case round =>
     obtain ⟨j,hj,hdj,rfl,hbi⟩:=hrel;have hbw:=hblo.trans (hbi.mono hblo.size);by_cases hjk : j < k
     ·have d0 : wr.cell? ⟨b,off + j * 4,none⟩ = some (Value.string (gt xs j).1):=(hbi.cell (by exact hbsz)).trans (HCo.out j 0 (by omega) (by omega))
      have d1 : wr.cell? ⟨b,off + k * 4,none⟩ = some (Value.string (gt xs k).1):=(hbi.cell (by exact hbsz)).trans (HCo.out k 0 (by omega) (by omega));have hjl : j < xs.length:=by omega
      by_cases hq : (gt xs j).1 = (gt xs k).1
      ·have q0 : ((gt xs j).1.toList == (gt xs k).1.toList) = true:=by rw [seq_eql]; exact seq_true.2 hq
       have HQ:=Lib.hid (vdB_bad (Ok:=OkI) (mx:=8) hlt (fun hk => hk.2 j hjk hq));clear hq
       go_wp2_with fail
       go_quiet (fail)
       go_wp2_with fail
       go_ret;exact ⟨ret_bool HQ.out.symm,below_drewN hbw _⟩
      ·have q0 : ((gt xs j).1.toList == (gt xs k).1.toList) = false:=by rw [seq_eql]; exact seq_false.2 hq
       have HJ : Hid (∀ q,q < j + 1 → (gt xs q).1 ≠ (gt xs k).1):=Lib.hid (fun q hq1 => by
        rcases Nat.lt_succ_iff_lt_or_eq.1 hq1 with h1 | rfl
        ·exact hdj.out q h1
        ·exact hq)
       clear hq
       go_wp2_with fail
       go_quiet (fail)
       go_wp2_with fail
       go_roundw
       case rel => exact ⟨j + 1,by omega,HJ,by go_num,below_drewN hbi _⟩
       case measure => simp [intOf]; omega
     ·obtain rfl : j = k:=by omega
      have HN:=Lib.hid (upTo_succ hok.out ⟨HV.out,hdj.out⟩)
      go_wp2_with fail
      go_roundw
      case rel => exact ⟨j + 1,by omega,HN,by go_num,hbw⟩
      case measure => simp [intOf]; omega
   ·have hv' : ivB (gt xs k) = false:=by simpa using hv
    have HQ:=Lib.hid (vdB_bad (Ok:=OkI) (mx:=8) hlt (fun hk => hv hk.1));clear hv
    go_wp2_with fail
    refine (specItemValid_any (gt xs k).1 (gt xs k).2.1 (gt xs k).2.2.1 (gt xs k).2.2.2 wr z0 z1 z2).mono ?_;rintro e w1 ⟨rfl,hb1⟩;rw [show ivB ((gt xs k).1,(gt xs k).2.1,(gt xs k).2.2.1,(gt xs k).2.2.2) = false from hv']
    go_wp2_with fail
    go_ret;exact ⟨ret_bool HQ.out.symm,hbl.trans (hb1.mono hsw)⟩
  ·obtain rfl : k = xs.length:=by omega
   have HQ:=Lib.hid (vdB_all (mx:=8) hok.out)
   go_wp2_with fail
   go_ret;exact ⟨ret_bool HQ.out,hbl⟩
end Go.Proofs.YtfnmlffpnmmcdaaGreatDoor
namespace Go.Proofs.YtfnmlffpnmmcdaaGreatDoor
set_option maxRecDepth 100000
open Go.RowKit
set_option maxHeartbeats 1600000 in
theorem implFeedValid_any (A : Option Addr) (cap B : Nat) (xs : List ElItem) (w : World) (h : RdE 4 encItem w B A xs) (hB : B ≤ w.heap.size) (hl : xs.length ≤ 140737488351232) (hcap : xs.length ≤ cap) (hsz : ∀ k,k < xs.length → (gt xs k).1.size ≤ maxLen ∧ (gt xs k).2.1.size ≤ maxLen ∧ (gt xs k).2.2.1.size ≤ maxLen) :
    Calls Tryz.prog 65 #[.slice A xs.length cap] w fun e w' => e = .returned (.bool (fdB xs)) ∧ Below w.heap.size w w':=by
 have HD:=Lib.hid hsz;clear hsz;by_cases hlen : xs.length ≤ 8
 ·have hd : decide (8 < (xs.length : Int)) = false:=decide_eq_false (by omega)
  go_enter Tryz.func65,Tryz.ntmps65
  go_wp2_with fail
  go_loopw [10] (fun i wr => ∃ k : Nat,k ≤ xs.length ∧ Hid (upTo OkI xs k) ∧ i = .int .i64 k ∧ Below w.heap.size w wr) (fun i _ => xs.length - (intOf i).toNat)
  case atStart => exact ⟨0,Nat.zero_le _,Lib.hid upTo_zero,rfl,Below.refl _ _⟩
  case round =>
   obtain ⟨k,hk,hok,rfl,hbl⟩:=hrel;have hsw:=hbl.size;by_cases hlt : k < xs.length
   ·obtain ⟨z0,z1,z2⟩:=HD.out k hlt
    have hrW:=(h.below (hbl.mono hB)).alloc (Nat.le_trans hB hbl.size) (.cells #[.string (gt xs k).1,.string (gt xs k).2.1,.string (gt xs k).2.2.1,.int .i64 (gt xs k).2.2.2] 69);obtain ⟨b,off,rfl,hb,hc⟩:=(h.below (hbl.mono hB)).at_ (by omega);have e0 : (wr.alloc (.cells #[.string (gt xs k).1,.string (gt xs k).2.1,.string (gt xs k).2.2.1,.int .i64 (gt xs k).2.2.2] 69)).cell? ⟨wr.heap.size,0,none⟩ = some (Value.string (gt xs k).1):=by rw [World.cell?_alloc_at _ _ _ _ rfl]; rfl
    have e1 : (wr.alloc (.cells #[.string (gt xs k).1,.string (gt xs k).2.1,.string (gt xs k).2.2.1,.int .i64 (gt xs k).2.2.2] 69)).cell? ⟨wr.heap.size,1,none⟩ = some (Value.string (gt xs k).2.1):=by rw [World.cell?_alloc_at _ _ _ _ rfl]; rfl
    have e2 : (wr.alloc (.cells #[.string (gt xs k).1,.string (gt xs k).2.1,.string (gt xs k).2.2.1,.int .i64 (gt xs k).2.2.2] 69)).cell? ⟨wr.heap.size,2,none⟩ = some (Value.string (gt xs k).2.2.1):=by rw [World.cell?_alloc_at _ _ _ _ rfl]; rfl
    have e3 : (wr.alloc (.cells #[.string (gt xs k).1,.string (gt xs k).2.1,.string (gt xs k).2.2.1,.int .i64 (gt xs k).2.2.2] 69)).cell? ⟨wr.heap.size,3,none⟩ = some (Value.int .i64 (gt xs k).2.2.2):=by rw [World.cell?_alloc_at _ _ _ _ rfl]; rfl
    have c0 : wr.cell? ⟨b,off + k * 4,none⟩ = some (Value.string (gt xs k).1):=hc k 0 (by omega) (by omega);have c1 : wr.cell? ⟨b,off + k * 4 + 1,none⟩ = some (Value.string (gt xs k).2.1):=hc k 1 (by omega) (by omega);have c2 : wr.cell? ⟨b,off + k * 4 + 2,none⟩ = some (Value.string (gt xs k).2.2.1):=hc k 2 (by omega) (by omega);have c3 : wr.cell? ⟨b,off + k * 4 + 3,none⟩ = some (Value.int .i64 (gt xs k).2.2.2):=hc k 3 (by omega) (by omega);have hsz1 : wr.heap.size < (wr.alloc (.cells #[.string (gt xs k).1,.string (gt xs k).2.1,.string (gt xs k).2.2.1,.int .i64 (gt xs k).2.2.2] 69)).heap.size:=by simp
    have hblW:=hbl.alloc hbl.size (.cells #[.string (gt xs k).1,.string (gt xs k).2.1,.string (gt xs k).2.2.1,.int .i64 (gt xs k).2.2.2] 69);have hsl:=fun W => run_upto (P:=Tryz.prog) Tryz.underlying30 info_Item (some ⟨b,off,none⟩) xs.length cap k (by omega) W
    clear hc;have f0:=fun (z : Bel (wr.alloc (.cells #[.string (gt xs k).1,.string (gt xs k).2.1,.string (gt xs k).2.2.1,.int .i64 (gt xs k).2.2.2] 69)).heap.size (wr.alloc (.cells #[.string (gt xs k).1,.string (gt xs k).2.1,.string (gt xs k).2.2.1,.int .i64 (gt xs k).2.2.2] 69))) => Bel.cell e0 hsz1 z
    have f1:=fun (z : Bel (wr.alloc (.cells #[.string (gt xs k).1,.string (gt xs k).2.1,.string (gt xs k).2.2.1,.int .i64 (gt xs k).2.2.2] 69)).heap.size (wr.alloc (.cells #[.string (gt xs k).1,.string (gt xs k).2.1,.string (gt xs k).2.2.1,.int .i64 (gt xs k).2.2.2] 69))) => Bel.cell e1 hsz1 z
    have f2:=fun (z : Bel (wr.alloc (.cells #[.string (gt xs k).1,.string (gt xs k).2.1,.string (gt xs k).2.2.1,.int .i64 (gt xs k).2.2.2] 69)).heap.size (wr.alloc (.cells #[.string (gt xs k).1,.string (gt xs k).2.1,.string (gt xs k).2.2.1,.int .i64 (gt xs k).2.2.2] 69))) => Bel.cell e2 hsz1 z
    have f3:=fun (z : Bel (wr.alloc (.cells #[.string (gt xs k).1,.string (gt xs k).2.1,.string (gt xs k).2.2.1,.int .i64 (gt xs k).2.2.2] 69)).heap.size (wr.alloc (.cells #[.string (gt xs k).1,.string (gt xs k).2.1,.string (gt xs k).2.2.1,.int .i64 (gt xs k).2.2.2] 69))) => Bel.cell e3 hsz1 z
    have hcall:=fun (z : Bel (wr.alloc (.cells #[.string (gt xs k).1,.string (gt xs k).2.1,.string (gt xs k).2.2.1,.int .i64 (gt xs k).2.2.2] 69)).heap.size (wr.alloc (.cells #[.string (gt xs k).1,.string (gt xs k).2.1,.string (gt xs k).2.2.1,.int .i64 (gt xs k).2.2.2] 69))) => implItemValid_any (gt xs k).1 (gt xs k).2.1 (gt xs k).2.2.1 (gt xs k).2.2.2 z.u z0 z1 z2
    have hcal2:=fun (z : Bel (wr.alloc (.cells #[.string (gt xs k).1,.string (gt xs k).2.1,.string (gt xs k).2.2.1,.int .i64 (gt xs k).2.2.2] 69)).heap.size (wr.alloc (.cells #[.string (gt xs k).1,.string (gt xs k).2.1,.string (gt xs k).2.2.1,.int .i64 (gt xs k).2.2.2] 69))) => itemNumber_any (tlA (some ⟨b,off,none⟩) cap 0 4) cap B (xs.take k) (gt xs k).1 z.u ((RdE.head hrW cap k).below (z.h.mono (Nat.le_trans hB (Nat.le_trans hbl.size (Nat.le_of_lt hsz1))))) (Nat.le_trans (Nat.le_trans hB (Nat.le_trans hbl.size (Nat.le_of_lt hsz1))) z.h.size) (by rw [List.length_take]; omega)
    have hlk : (xs.take k).length = k:=by simp; omega
    rw [hlk] at hcal2;have HC2:=Lib.hid hcal2;clear hlk hcal2;by_cases hv : ivB (gt xs k) = true
    ·simp only [show ivB ((gt xs k).1,(gt xs k).2.1,(gt xs k).2.2.1,(gt xs k).2.2.2) = true from hv] at hcall
     have HC:=Lib.hid hcall;clear hcall;by_cases hdis : ∃ j,j < k ∧ (gt xs j).1 = (gt xs k).1
     ·have hge : 0 ≤ itemIx (xs.take k) (gt xs k).1:=by
         obtain ⟨j,hj,e⟩:=hdis;exact ix_take_some (by omega) hj (seq_true.2 e)
      have hgd : decide (0 ≤ itemIx (xs.take k) (gt xs k).1) = true:=decide_eq_true hge
      have HQ:=Lib.hid (vdB_bad (Ok:=OkI) (mx:=8) hlt (fun hk => by
       obtain ⟨j,hj,e⟩:=hdis
       exact hk.2 j hj e))
      clear hdis hge hv
      go_wp2_with fail
      generalize (wr.alloc (.cells #[.string (gt xs k).1,.string (gt xs k).2.1,.string (gt xs k).2.2.1,.int .i64 (gt xs k).2.2.2] 69)) = W at *
      refine wp_region_bel W.heap.size (by kernel_rfl) (by kernel_rfl) ?_
      repeat (go_big_quiet_step (first | (go_at_call 115; exact Calls.bel (Nat.le_refl _) (HC.out _)) | (go_at_call 103; exact Calls.bel (Nat.le_refl _) (HC2.out _))))
      refine wpQuiet_nil ?_;intro _ hw';obtain ⟨z,hw''⟩:=hw';subst hw''
      go_wp2_with fail
      go_ret;exact ⟨ret_bool HQ.out.symm,hblW.trans (z.h.mono hblW.size)⟩
     ·have hneg : itemIx (xs.take k) (gt xs k).1 = -1:=ix_take_none (by omega) (fun j hj => seq_false.2 (fun e => hdis ⟨j,hj,e⟩))
      have hgd : decide (0 ≤ itemIx (xs.take k) (gt xs k).1) = false:=decide_eq_false (by omega);have HN:=Lib.hid (upTo_succ hok.out ⟨hv,fun j hj e => hdis ⟨j,hj,e⟩⟩);clear hdis hneg hv
      go_wp2_with fail
      generalize (wr.alloc (.cells #[.string (gt xs k).1,.string (gt xs k).2.1,.string (gt xs k).2.2.1,.int .i64 (gt xs k).2.2.2] 69)) = W at *
      refine wp_region_bel W.heap.size (by kernel_rfl) (by kernel_rfl) ?_
      repeat (go_big_quiet_step (first | (go_at_call 115; exact Calls.bel (Nat.le_refl _) (HC.out _)) | (go_at_call 103; exact Calls.bel (Nat.le_refl _) (HC2.out _))))
      refine wpQuiet_nil ?_;intro _ hw';obtain ⟨z,hw''⟩:=hw';subst hw''
      go_wp2_with fail
      have hbX:=hblW.trans (z.h.mono hblW.size);go_roundw
      case rel => exact ⟨k + 1,by omega,HN,by go_num,hbX⟩
      case measure => simp [intOf]; omega
    ·have hv' : ivB (gt xs k) = false:=by simpa using hv
     have HQ:=Lib.hid (vdB_bad (Ok:=OkI) (mx:=8) hlt (fun hk => hv hk.1));simp only [show ivB ((gt xs k).1,(gt xs k).2.1,(gt xs k).2.2.1,(gt xs k).2.2.2) = false from hv'] at hcall;have HC:=Lib.hid hcall;clear hcall hv
     go_wp2_with fail
     generalize (wr.alloc (.cells #[.string (gt xs k).1,.string (gt xs k).2.1,.string (gt xs k).2.2.1,.int .i64 (gt xs k).2.2.2] 69)) = W at *
     refine wp_region_bel W.heap.size (by kernel_rfl) (by kernel_rfl) ?_
     repeat (go_big_quiet_step (first | (go_at_call 115; exact Calls.bel (Nat.le_refl _) (HC.out _)) | (go_at_call 103; exact Calls.bel (Nat.le_refl _) (HC2.out _))))
     refine wpQuiet_nil ?_;intro _ hw';obtain ⟨z,hw''⟩:=hw';subst hw''
     go_wp2_with fail
     go_ret;exact ⟨ret_bool HQ.out.symm,hblW.trans (z.h.mono hblW.size)⟩
   ·obtain rfl : k = xs.length:=by omega
    have HQ:=Lib.hid (show fdB xs = true from vdB_true ⟨hlen,hok.out⟩)
    go_wp2_with fail
    go_ret;exact ⟨ret_bool HQ.out.symm,hbl⟩
 ·have hd : decide (8 < (xs.length : Int)) = true:=decide_eq_true (by omega)
  have HQ:=Lib.hid (show fdB xs = false from vdB_long (by omega));go_enter Tryz.func65,Tryz.ntmps65
  go_wp2_with fail
  go_ret;exact ⟨ret_bool HQ.out.symm,Below.refl _ _⟩
end Go.Proofs.YtfnmlffpnmmcdaaGreatDoor
namespace Go.Proofs.YtfnmlffpnmmcdaaGreatDoor
set_option maxRecDepth 100000
open Go.RowKit
theorem implHandleBefore_any (a b c d : ByteArray) (w : World) : Calls Tryz.prog 105 #[.agg #[.string a,.string b],.agg #[.string c,.string d]] w fun e w' => e = .returned (.bool (hbB (a,b) (c,d))) ∧ Below w.heap.size w w':=by
 cases hq : seq b d
 ·have d1 : (b.toList == d.toList) = false:=by rw [seq_eql,hq]
  have HQ:=Lib.hid (hbB_ne (p:=(a,b)) (q:=(c,d)) hq);clear hq;go_enter Tryz.func105,Tryz.ntmps105
  go_wp2
  go_ret;exact ⟨ret_bool (HQ.out.symm),(((Below.refl _ _).alloc (Nat.le_refl _) _).alloc (by simp) _)⟩
 ·have d1 : (b.toList == d.toList) = true:=by rw [seq_eql,hq]
  have HQ:=Lib.hid (hbB_eq (p:=(a,b)) (q:=(c,d)) hq);clear hq;go_enter Tryz.func105,Tryz.ntmps105
  go_wp2
  go_ret;exact ⟨ret_bool (HQ.out.symm),(((Below.refl _ _).alloc (Nat.le_refl _) _).alloc (by simp) _)⟩
theorem specHandleBefore_any (a b c d : ByteArray) (w : World) : Calls Tryz.prog 82 #[.agg #[.string a,.string b],.agg #[.string c,.string d]] w fun e w' => e = .returned (.bool (hbB (a,b) (c,d))) ∧ Below w.heap.size w w':=by
 cases hl : ltS b d
 ·have d0 : Op.bytesLess b.toList d.toList = false:=hl
  cases hq : seq b d
  ·have d1 : (b.toList == d.toList) = false:=by rw [seq_eql,hq]
   have HQ:=Lib.hid ((hbB_ne (p:=(a,b)) (q:=(c,d)) hq).trans hl);clear hq hl;go_enter Tryz.func82,Tryz.ntmps82
   go_wp2
   go_ret;exact ⟨ret_bool (HQ.out.symm),(((Below.refl _ _).alloc (Nat.le_refl _) _).alloc (by simp) _)⟩
  ·have d1 : (b.toList == d.toList) = true:=by rw [seq_eql,hq]
   have HQ:=Lib.hid (hbB_eq (p:=(a,b)) (q:=(c,d)) hq);clear hq hl;go_enter Tryz.func82,Tryz.ntmps82
   go_wp2
   go_ret;exact ⟨ret_bool (HQ.out.symm),(((Below.refl _ _).alloc (Nat.le_refl _) _).alloc (by simp) _)⟩
 ·have d0 : Op.bytesLess b.toList d.toList = true:=hl
  have HQ:=Lib.hid (hbB_true (p:=(a,b)) (q:=(c,d)) (.inl hl));clear hl;go_enter Tryz.func82,Tryz.ntmps82
  go_wp2
  go_ret;exact ⟨ret_bool (HQ.out.symm),(((Below.refl _ _).alloc (Nat.le_refl _) _).alloc (by simp) _)⟩
set_option maxRecDepth 100000 in
set_option maxHeartbeats 1600000 in
theorem implFollowersValid_any (A : Option Addr) (cap B : Nat) (fs : List ElHandle) (w : World) (h : RdE 2 encHandle w B A fs) (hB : B ≤ w.heap.size) (hl : fs.length ≤ 140737488351232) (hsz : ∀ k,k < fs.length → (gt fs k).1.size ≤ maxLen ∧ (gt fs k).2.size ≤ maxLen) :
    Calls Tryz.prog 66 #[.slice A fs.length cap] w fun e w' => e = .returned (.bool (fvB fs)) ∧ Below w.heap.size w w':=by
 have HD:=Lib.hid hsz;clear hsz;by_cases hlen : fs.length ≤ 10
 ·have hd : decide (10 < (fs.length : Int)) = false:=decide_eq_false (by omega)
  go_enter Tryz.func66,Tryz.ntmps66
  go_wp2_with fail
  go_loopw [10] (fun i wr => ∃ k : Nat,k ≤ fs.length ∧ Hid (okFUp fs k) ∧ i = .int .i64 k ∧ Below w.heap.size w wr) (fun i _ => fs.length - (intOf i).toNat)
  case atStart => exact ⟨0,Nat.zero_le _,Lib.hid (fun j hj => absurd hj (by omega)),rfl,Below.refl _ _⟩
  case round =>
   obtain ⟨k,hk,hok,rfl,hbl⟩:=hrel;have hsw:=hbl.size;by_cases hlt : k < fs.length
   ·obtain ⟨z0,z1⟩:=HD.out k hlt
    obtain ⟨b,off,rfl,hb,hc⟩:=(h.below (hbl.mono hB)).at_ (by omega);have c0 : wr.cell? ⟨b,off + k * 2,none⟩ = some (Value.string (gt fs k).1):=hc k 0 (by omega) (by omega);have c1 : wr.cell? ⟨b,off + k * 2 + 1,none⟩ = some (Value.string (gt fs k).2):=hc k 1 (by omega) (by omega);have e0 : (wr.alloc (.cells #[.string (gt fs k).1,.string (gt fs k).2] 29)).cell? ⟨wr.heap.size,0,none⟩ = some (Value.string (gt fs k).1):=by rw [World.cell?_alloc_at _ _ _ _ rfl]; rfl
    have e1 : (wr.alloc (.cells #[.string (gt fs k).1,.string (gt fs k).2] 29)).cell? ⟨wr.heap.size,1,none⟩ = some (Value.string (gt fs k).2):=by rw [World.cell?_alloc_at _ _ _ _ rfl]; rfl
    have hsz1 : wr.heap.size < (wr.alloc (.cells #[.string (gt fs k).1,.string (gt fs k).2] 29)).heap.size:=by simp
    have hblW:=hbl.alloc hbl.size (.cells #[.string (gt fs k).1,.string (gt fs k).2] 29);have hbW : b < (wr.alloc (.cells #[.string (gt fs k).1,.string (gt fs k).2] 29)).heap.size:=by omega
    have f0:=fun (z : Bel (wr.alloc (.cells #[.string (gt fs k).1,.string (gt fs k).2] 29)).heap.size (wr.alloc (.cells #[.string (gt fs k).1,.string (gt fs k).2] 29))) => Bel.cell e0 hsz1 z
    have f1:=fun (z : Bel (wr.alloc (.cells #[.string (gt fs k).1,.string (gt fs k).2] 29)).heap.size (wr.alloc (.cells #[.string (gt fs k).1,.string (gt fs k).2] 29))) => Bel.cell e1 hsz1 z
    by_cases q1 : hvB ((gt fs k).1,(gt fs k).2) = true
    ·by_cases hk0 : k = 0
     ·have d0 : decide (0 < (k : Int)) = false:=decide_eq_false (by omega)
      have d0n : decide (0 < k) = false:=decide_eq_false (by omega);have HN:=Lib.hid (okFUp_succ hok.out ⟨q1,fun h0 => absurd h0 (by omega)⟩);clear hk0
      go_wp2_with fail
      generalize (wr.alloc (.cells #[.string (gt fs k).1,.string (gt fs k).2] 29)) = W at *
      refine wp_region_bel W.heap.size (by kernel_rfl) (by kernel_rfl) ?_
      repeat (go_big_quiet_step (first | (go_at_call 64; exact Calls.bel (Nat.le_refl _) (implHandleValid_b _ _ _ (by assumption) (by assumption))) | (go_at_call 105; exact Calls.bel (Nat.le_refl _) (implHandleBefore_any _ _ _ _ _))))
      refine wpQuiet_nil ?_;intro _ hw';obtain ⟨z,hw''⟩:=hw';subst hw''
      go_wp2_with fail
      have hbX:=hblW.trans (z.h.mono hblW.size);go_roundw
      case rel => exact ⟨k + 1,by omega,HN,by go_num,hbX⟩
      case measure => simp [intOf]; omega
     ·have d0 : decide (0 < (k : Int)) = true:=decide_eq_true (by omega)
      have d0n : decide (0 < k) = true:=decide_eq_true (by omega);have hk1 : ((k : Int) - 1).toNat = k - 1:=by omega
      have hk2 : IntKind.i64.wrap ((k : Int) - 1) = (k : Int) - 1:=IntWalk.i64_in _ (by omega);have hk4 : (0 : Int) ≤ (k : Int) - 1:=by omega
      have hk5 : (k : Int) - 1 < (fs.length : Int):=by omega
      have p0 : wr.cell? ⟨b,off + (k - 1) * 2,none⟩ = some (Value.string (gt fs (k - 1)).1):=hc (k - 1) 0 (by omega) (by omega);have p1 : wr.cell? ⟨b,off + (k - 1) * 2 + 1,none⟩ = some (Value.string (gt fs (k - 1)).2):=hc (k - 1) 1 (by omega) (by omega);have g0:=fun (z : Bel (wr.alloc (.cells #[.string (gt fs k).1,.string (gt fs k).2] 29)).heap.size (wr.alloc (.cells #[.string (gt fs k).1,.string (gt fs k).2] 29))) => Bel.cell (cellOn p0 (by show b < _; omega) (Below.push (Below.refl _ _) _)) hbW z
      have g1:=fun (z : Bel (wr.alloc (.cells #[.string (gt fs k).1,.string (gt fs k).2] 29)).heap.size (wr.alloc (.cells #[.string (gt fs k).1,.string (gt fs k).2] 29))) => Bel.cell (cellOn p1 (by show b < _; omega) (Below.push (Below.refl _ _) _)) hbW z
      by_cases q2 : hbB ((gt fs (k - 1)).1,(gt fs (k - 1)).2) ((gt fs k).1,(gt fs k).2) = true
      ·have HN:=Lib.hid (okFUp_succ hok.out ⟨q1,fun _ => BefH.of q2⟩)
       clear p0 p1 hk0
       go_wp2_with fail
       generalize (wr.alloc (.cells #[.string (gt fs k).1,.string (gt fs k).2] 29)) = W at *
       refine wp_region_bel W.heap.size (by kernel_rfl) (by kernel_rfl) ?_
       repeat (go_big_quiet_step (first | (go_at_call 64; exact Calls.bel (Nat.le_refl _) (implHandleValid_b _ _ _ (by assumption) (by assumption))) | (go_at_call 105; exact Calls.bel (Nat.le_refl _) (implHandleBefore_any _ _ _ _ _))))
       refine wpQuiet_nil ?_;intro _ hw';obtain ⟨z,hw''⟩:=hw';subst hw''
       go_wp2_with fail
       have hbX:=hblW.trans (z.h.mono hblW.size);go_roundw
       case rel => exact ⟨k + 1,by omega,HN,by go_num,hbX⟩
       case measure => simp [intOf]; omega
      ·have q2' : hbB ((gt fs (k - 1)).1,(gt fs (k - 1)).2) ((gt fs k).1,(gt fs k).2) = false:=by simpa using q2
       have HQ:=Lib.hid (fvB_bad hlt (fun hh => q2 (hbB_true (hh.2 (by omega)))));clear q2 p0 p1 hk0
       go_wp2_with fail
       generalize (wr.alloc (.cells #[.string (gt fs k).1,.string (gt fs k).2] 29)) = W at *
       refine wp_region_bel W.heap.size (by kernel_rfl) (by kernel_rfl) ?_
       repeat (go_big_quiet_step (first | (go_at_call 64; exact Calls.bel (Nat.le_refl _) (implHandleValid_b _ _ _ (by assumption) (by assumption))) | (go_at_call 105; exact Calls.bel (Nat.le_refl _) (implHandleBefore_any _ _ _ _ _))))
       refine wpQuiet_nil ?_;intro _ hw';obtain ⟨z,hw''⟩:=hw';subst hw''
       go_wp2_with fail
       go_ret;exact ⟨ret_bool HQ.out.symm,hblW.trans (z.h.mono hblW.size)⟩
    ·have q1' : hvB ((gt fs k).1,(gt fs k).2) = false:=by simpa using q1
     have HQ:=Lib.hid (fvB_bad hlt (fun hh => q1 hh.1));clear q1
     go_wp2_with fail
     generalize (wr.alloc (.cells #[.string (gt fs k).1,.string (gt fs k).2] 29)) = W at *
     refine wp_region_bel W.heap.size (by kernel_rfl) (by kernel_rfl) ?_
     repeat (go_big_quiet_step (first | (go_at_call 64; exact Calls.bel (Nat.le_refl _) (implHandleValid_b _ _ _ (by assumption) (by assumption))) | (go_at_call 105; exact Calls.bel (Nat.le_refl _) (implHandleBefore_any _ _ _ _ _))))
     refine wpQuiet_nil ?_;intro _ hw';obtain ⟨z,hw''⟩:=hw';subst hw''
     go_wp2_with fail
     go_ret;exact ⟨ret_bool HQ.out.symm,hblW.trans (z.h.mono hblW.size)⟩
   ·obtain rfl : k = fs.length:=by omega
    have HQ:=Lib.hid (fvB_true hlen hok.out)
    go_wp2_with fail
    go_ret;exact ⟨ret_bool HQ.out.symm,hbl⟩
 ·have hd : decide (10 < (fs.length : Int)) = true:=decide_eq_true (by omega)
  have HQ:=Lib.hid (fvB_long (ps:=fs) (by omega));go_enter Tryz.func66,Tryz.ntmps66
  go_wp2_with fail
  go_ret;exact ⟨ret_bool HQ.out.symm,Below.refl _ _⟩
set_option maxRecDepth 100000 in
set_option maxHeartbeats 1600000 in
theorem specFollowersValid_any (A : Option Addr) (cap B : Nat) (fs : List ElHandle) (w : World) (h : RdE 2 encHandle w B A fs) (hB : B ≤ w.heap.size) (hl : fs.length ≤ 140737488351232) (hsz : ∀ k,k < fs.length → (gt fs k).1.size ≤ maxLen ∧ (gt fs k).2.size ≤ maxLen) :
    Calls Tryz.prog 80 #[.slice A fs.length cap] w fun e w' => e = .returned (.bool (fvB fs)) ∧ Below w.heap.size w w':=by
 have HD:=Lib.hid hsz;clear hsz;go_enter Tryz.func80,Tryz.ntmps80
 go_wp2_with fail
 go_loopw [3] (fun i wr => ∃ k : Nat,k ≤ fs.length ∧ Hid (okFUp fs k) ∧ i = .int .i64 k ∧ Below w.heap.size w wr) (fun i _ => fs.length - (intOf i).toNat)
 case atStart => exact ⟨0,Nat.zero_le _,Lib.hid (fun j hj => absurd hj (by omega)),rfl,Below.refl _ _⟩
 case round =>
  obtain ⟨k,hk,hok,rfl,hbl⟩:=hrel;have hsw:=hbl.size;by_cases hlt : k < fs.length
  ·obtain ⟨z0,z1⟩:=HD.out k hlt
   obtain ⟨b,off,rfl,hb,hc⟩:=(h.below (hbl.mono hB)).at_ (by omega);have c0 : wr.cell? ⟨b,off + k * 2,none⟩ = some (Value.string (gt fs k).1):=hc k 0 (by omega) (by omega);have c1 : wr.cell? ⟨b,off + k * 2 + 1,none⟩ = some (Value.string (gt fs k).2):=hc k 1 (by omega) (by omega);have f0:=fun (z : Bel wr.heap.size wr) => Bel.cell c0 (by show b < _; omega) z
   have f1:=fun (z : Bel wr.heap.size wr) => Bel.cell c1 (by show b < _; omega) z
   have hblW:=hbl;by_cases q1 : hvB ((gt fs k).1,(gt fs k).2) = true
   ·by_cases hk0 : k = 0
    ·have d0 : decide (0 < (k : Int)) = false:=decide_eq_false (by omega)
     have d0n : decide (0 < k) = false:=decide_eq_false (by omega);have HN:=Lib.hid (okFUp_succ hok.out ⟨q1,fun h0 => absurd h0 (by omega)⟩);clear hk0
     go_wp2_with fail
     refine wp_region_bel wr.heap.size (by kernel_rfl) (by kernel_rfl) ?_
     repeat (go_big_quiet_step (first | (go_at_call 78; exact Calls.bel (Nat.le_refl _) (specHandleValid_b _ _ _ (by assumption) (by assumption))) | (go_at_call 82; exact Calls.bel (Nat.le_refl _) (specHandleBefore_any _ _ _ _ _))))
     refine wpQuiet_nil ?_;intro _ hw';obtain ⟨z,hw''⟩:=hw';subst hw''
     go_wp2_with fail
     have hbX:=hblW.trans (z.h.mono hblW.size);go_roundw
     case rel => exact ⟨k + 1,by omega,HN,by go_num,hbX⟩
     case measure => simp [intOf]; omega
    ·have d0 : decide (0 < (k : Int)) = true:=decide_eq_true (by omega)
     have d0n : decide (0 < k) = true:=decide_eq_true (by omega);have hk1 : ((k : Int) - 1).toNat = k - 1:=by omega
     have hk2 : IntKind.i64.wrap ((k : Int) - 1) = (k : Int) - 1:=IntWalk.i64_in _ (by omega);have hk4 : (0 : Int) ≤ (k : Int) - 1:=by omega
     have hk5 : (k : Int) - 1 < (fs.length : Int):=by omega
     have p0 : wr.cell? ⟨b,off + (k - 1) * 2,none⟩ = some (Value.string (gt fs (k - 1)).1):=hc (k - 1) 0 (by omega) (by omega);have p1 : wr.cell? ⟨b,off + (k - 1) * 2 + 1,none⟩ = some (Value.string (gt fs (k - 1)).2):=hc (k - 1) 1 (by omega) (by omega);have g0:=fun (z : Bel wr.heap.size wr) => Bel.cell p0 (by show b < _; omega) z
     have g1:=fun (z : Bel wr.heap.size wr) => Bel.cell p1 (by show b < _; omega) z
     by_cases q2 : hbB ((gt fs (k - 1)).1,(gt fs (k - 1)).2) ((gt fs k).1,(gt fs k).2) = true
     ·have HN:=Lib.hid (okFUp_succ hok.out ⟨q1,fun _ => BefH.of q2⟩)
      clear p0 p1 hk0
      go_wp2_with fail
      refine wp_region_bel wr.heap.size (by kernel_rfl) (by kernel_rfl) ?_
      repeat (go_big_quiet_step (first | (go_at_call 78; exact Calls.bel (Nat.le_refl _) (specHandleValid_b _ _ _ (by assumption) (by assumption))) | (go_at_call 82; exact Calls.bel (Nat.le_refl _) (specHandleBefore_any _ _ _ _ _))))
      refine wpQuiet_nil ?_;intro _ hw';obtain ⟨z,hw''⟩:=hw';subst hw''
      go_wp2_with fail
      have hbX:=hblW.trans (z.h.mono hblW.size);go_roundw
      case rel => exact ⟨k + 1,by omega,HN,by go_num,hbX⟩
      case measure => simp [intOf]; omega
     ·have q2' : hbB ((gt fs (k - 1)).1,(gt fs (k - 1)).2) ((gt fs k).1,(gt fs k).2) = false:=by simpa using q2
      have HQ:=Lib.hid (fvB_bad hlt (fun hh => q2 (hbB_true (hh.2 (by omega)))));clear q2 p0 p1 hk0
      go_wp2_with fail
      refine wp_region_bel wr.heap.size (by kernel_rfl) (by kernel_rfl) ?_
      repeat (go_big_quiet_step (first | (go_at_call 78; exact Calls.bel (Nat.le_refl _) (specHandleValid_b _ _ _ (by assumption) (by assumption))) | (go_at_call 82; exact Calls.bel (Nat.le_refl _) (specHandleBefore_any _ _ _ _ _))))
      refine wpQuiet_nil ?_;intro _ hw';obtain ⟨z,hw''⟩:=hw';subst hw''
      go_wp2_with fail
      go_ret;exact ⟨ret_bool HQ.out.symm,hblW.trans (z.h.mono hblW.size)⟩
   ·have q1' : hvB ((gt fs k).1,(gt fs k).2) = false:=by simpa using q1
    have HQ:=Lib.hid (fvB_bad hlt (fun hh => q1 hh.1));clear q1
    go_wp2_with fail
    refine wp_region_bel wr.heap.size (by kernel_rfl) (by kernel_rfl) ?_
    repeat (go_big_quiet_step (first | (go_at_call 78; exact Calls.bel (Nat.le_refl _) (specHandleValid_b _ _ _ (by assumption) (by assumption))) | (go_at_call 82; exact Calls.bel (Nat.le_refl _) (specHandleBefore_any _ _ _ _ _))))
    refine wpQuiet_nil ?_;intro _ hw';obtain ⟨z,hw''⟩:=hw';subst hw''
    go_wp2_with fail
    go_ret;exact ⟨ret_bool HQ.out.symm,hblW.trans (z.h.mono hblW.size)⟩
  ·obtain rfl : k = fs.length:=by omega
   have HQ:=Lib.hid (fvB_all hok.out).symm
   go_wp2_with fail
   go_ret;exact ⟨ret_bool HQ.out.symm,hbl⟩
end Go.Proofs.YtfnmlffpnmmcdaaGreatDoor
