/- Parts of the proof, merged: ChC TcB ActB HtB RiB UfB Kept. -/
import Derived.Test.YtfnmlffpnmmcdaaGreatDoorMq4
import Derived.Test.YtfnmlffpnmmcdaaGreatDoorMq3
import Derived.Deep.RegionHeld3
import Derived.Test.YtfnmlffpnmmcdaaGreatDoorMq5
import Derived.RegionTactic
import Derived.Test.YtfnmlffpnmmcdaaGreatDoorMq1
namespace Go.Proofs.YtfnmlffpnmmcdaaGreatDoor
set_option maxRecDepth 100000
open Go.RowKit
set_option maxHeartbeats 1600000 in
theorem specItemWith_any (A : Option Addr) (cap B : Nat) (xs : List ElItem) (key : ByteArray) (w : World) (h : RdE 4 encItem w B A xs) (hB : B ≤ w.heap.size) (hv : fdB xs = true) :
    Calls Tryz.prog 87 #[.slice A xs.length cap,.string key] w fun e w' => e = .returned (.tuple #[.agg #[.string (iwOf xs key).1,.string (iwOf xs key).2.1,.string (iwOf xs key).2.2.1,.int .i64 (iwOf xs key).2.2.2],.bool (hasK xs key)]) ∧ Below w.heap.size w w':=by
 have oR : OwnE 4 encItem 69 (w.alloc (.cells #[.string { data:=#[] },.string { data:=#[] },.string { data:=#[] },.int .i64 0] 69)) w.heap.size (some ⟨w.heap.size,0,none⟩) 1 [({ data:=#[] },{ data:=#[] },{ data:=#[] },0)]:=Own.lit w 69 4 1 #[.string { data:=#[] },.string { data:=#[] },.string { data:=#[] },.int .i64 0] (cE 4 encItem [({ data:=#[] },{ data:=#[] },{ data:=#[] },0)]) (by simp only [maxLen]; omega) rfl;have hbA : Below w.heap.size w (w.alloc (.cells #[.string { data:=#[] },.string { data:=#[] },.string { data:=#[] },.int .i64 0] 69)):=(Below.refl _ _).alloc (Nat.le_refl _) _;have h8:=fd_len hv;have HV:=Lib.hid hv;clear hv;go_enter Tryz.func87,Tryz.ntmps87
 go_wp2_with fail
 go_loopw [6] (fun i wr => ∃ k : Nat,k ≤ xs.length ∧ Hid (∀ j,j < k → isI key (gt xs j) = false) ∧ i = .int .i64 k ∧ OwnE 4 encItem 69 wr w.heap.size (some ⟨w.heap.size,0,none⟩) 1 [({ data:=#[] },{ data:=#[] },{ data:=#[] },0)] ∧ Below w.heap.size w wr) (fun i _ => xs.length - (intOf i).toNat)
 case atStart => exact ⟨0,Nat.zero_le _,Lib.hid (fun j hj => absurd hj (by omega)),rfl,oR,hbA⟩
 case round =>
  clear oR hbA;obtain ⟨k,hk,hno,rfl,oR,hbl⟩:=hrel;have hsw:=hbl.size;by_cases hlt : k < xs.length
  ·have k1 : decide ((k : Int) < (xs.length : Int)) = true:=by simp [hlt]
   have k2 : decide (k < xs.length) = true:=by simp [hlt]
   go_wp2_with fail
   refine (specFeedValid_any A cap B xs wr (h.below (hbl.mono hB)) (Nat.le_trans hB hsw) (by omega) (fd_sz HV.out)).mono ?_;rintro e w1 ⟨rfl,b1⟩;rw [HV.out];have hbl1:=hbl.trans (b1.mono hsw);have oR1:=Own.below oR b1;clear oR b1 hbl;obtain ⟨b,off,rfl,hb,hc⟩:=(h.below (hbl1.mono hB)).at_ (by omega);have c0 : w1.cell? ⟨b,off + k * 4,none⟩ = some (Value.string (gt xs k).1):=hc k 0 (by omega) (by omega);have c1 : w1.cell? ⟨b,off + k * 4 + 1,none⟩ = some (Value.string (gt xs k).2.1):=hc k 1 (by omega) (by omega);have c2 : w1.cell? ⟨b,off + k * 4 + 2,none⟩ = some (Value.string (gt xs k).2.2.1):=hc k 2 (by omega) (by omega);have c3 : w1.cell? ⟨b,off + k * 4 + 3,none⟩ = some (Value.int .i64 (gt xs k).2.2.2):=hc k 3 (by omega) (by omega);clear hc;by_cases hq : isI key (gt xs k) = true
   ·have q0 : ((gt xs k).1.toList == key.toList) = true:=by rw [seq_eql]; exact hq
    have HQ:=Lib.hid (show iwOf xs key = gt xs k ∧ hasK xs key = true from ⟨(iw_at hlt hno.out hq).2,(iw_at hlt hno.out hq).1⟩);clear hq;have r0:=oR1.cell (b:=w.heap.size) rfl (j:=0) (by simp);have r1:=oR1.cell (b:=w.heap.size) rfl (j:=1) (by simp);have r2:=oR1.cell (b:=w.heap.size) rfl (j:=2) (by simp);have r3:=oR1.cell (b:=w.heap.size) rfl (j:=3) (by simp);have rf0:=oR1.frozen (b:=w.heap.size) rfl 0;have rf1:=oR1.frozen (b:=w.heap.size) rfl 1;have rf2:=oR1.frozen (b:=w.heap.size) rfl 2;have rf3:=oR1.frozen (b:=w.heap.size) rfl 3;have r0 : _ = some (Value.string { data:=#[] }):=r0;have r1 : _ = some (Value.string { data:=#[] }):=r1;have r2 : _ = some (Value.string { data:=#[] }):=r2;have r3 : _ = some (Value.int .i64 0):=r3
    go_wp2_with fail
    exact bodyPost_ret (v:=.tuple #[.agg #[.string (gt xs k).1,.string (gt xs k).2.1,.string (gt xs k).2.2.1,.int .i64 (gt xs k).2.2.2],.bool true]) (by simp [results,Tryz.results87,go_sem,r0,r1,r2,r3]) rfl ⟨by rw [HQ.out.1,HQ.out.2]; first | done | rfl,(by first | exact hbl1 | exact ((((hbl1.setCell (p:=⟨w.heap.size,0,none⟩) (Nat.le_refl _) _).setCell (p:=⟨w.heap.size,1,none⟩) (Nat.le_refl _) _).setCell (p:=⟨w.heap.size,2,none⟩) (Nat.le_refl _) _).setCell (p:=⟨w.heap.size,3,none⟩) (Nat.le_refl _) _))⟩
   ·have hq' : isI key (gt xs k) = false:=by simpa using hq
    have q0 : ((gt xs k).1.toList == key.toList) = false:=by rw [seq_eql]; exact hq'
    clear hq
    go_wp2_with fail
    go_roundw
    case rel => exact ⟨k + 1,by omega,Lib.hid (fun j hj => by
        rcases Nat.lt_succ_iff_lt_or_eq.1 hj with h1 | rfl
        ·exact hno.out j h1
        ·exact hq'),by go_num,oR1,hbl1⟩
    case measure => simp [intOf]; omega
  ·obtain rfl : k = xs.length:=by omega
   have hn:=hasK_no hno.out;have HQ:=Lib.hid (show iwOf xs key = ({ data:=#[] },{ data:=#[] },{ data:=#[] },0) ∧ hasK xs key = false from ⟨iw_no hn,hn⟩);clear hn;have r0:=oR.cell (b:=w.heap.size) rfl (j:=0) (by simp);have r1:=oR.cell (b:=w.heap.size) rfl (j:=1) (by simp);have r2:=oR.cell (b:=w.heap.size) rfl (j:=2) (by simp);have r3:=oR.cell (b:=w.heap.size) rfl (j:=3) (by simp);have rf0:=oR.frozen (b:=w.heap.size) rfl 0;have rf1:=oR.frozen (b:=w.heap.size) rfl 1;have rf2:=oR.frozen (b:=w.heap.size) rfl 2;have rf3:=oR.frozen (b:=w.heap.size) rfl 3;have r0 : _ = some (Value.string { data:=#[] }):=r0;have r1 : _ = some (Value.string { data:=#[] }):=r1;have r2 : _ = some (Value.string { data:=#[] }):=r2;have r3 : _ = some (Value.int .i64 0):=r3
   go_wp2_with fail
   exact bodyPost_ret (v:=.tuple #[.agg #[.string { data:=#[] },.string { data:=#[] },.string { data:=#[] },.int .i64 0],.bool false]) (by simp [results,Tryz.results87,go_sem,r0,r1,r2,r3]) rfl ⟨by rw [HQ.out.1,HQ.out.2]; first | done | rfl,(by first | exact hbl | exact ((((hbl.setCell (p:=⟨w.heap.size,0,none⟩) (Nat.le_refl _) _).setCell (p:=⟨w.heap.size,1,none⟩) (Nat.le_refl _) _).setCell (p:=⟨w.heap.size,2,none⟩) (Nat.le_refl _) _).setCell (p:=⟨w.heap.size,3,none⟩) (Nat.le_refl _) _))⟩
set_option maxHeartbeats 1600000 in
theorem specNewItems_any (A : Option Addr) (cap : Nat) (T : Option Addr) (capT B : Nat) (bs ns : List ElItem) (w : World) (h : RdE 4 encItem w B A bs) (ht : RdE 4 encItem w B T ns) (hB : B ≤ w.heap.size) (hvb : fdB bs = true) (hva : fdB ns = true) :
    Calls Tryz.prog 88 #[.slice A bs.length cap,.slice T ns.length capT] w fun e w' => ∃ R cR,e = .returned (.slice R (nwOf bs ns).length cR) ∧ OwnE 4 encItem 69 w' w.heap.size R cR (nwOf bs ns) ∧ Below w.heap.size w w':=by
 have hemp : OwnE 4 encItem 69 (w.alloc (.cells #[] 69)) w.heap.size (some ⟨w.heap.size,0,none⟩) 0 ([] : List ElItem):=Own.lit w 69 4 0 #[] _ (Nat.zero_le _) rfl;have hemb : Below w.heap.size w (w.alloc (.cells #[] 69)):=(Below.refl _ _).alloc (Nat.le_refl _) _;have hb8:=fd_len hvb;have hn8:=fd_len hva;have HVB:=Lib.hid hvb;have HVA:=Lib.hid hva;clear hvb hva;go_enter Tryz.func88,Tryz.ntmps88
 go_wp2_with fail
 go_loopw [5,6,8] (fun v i _ wr => ∃ (k : Nat) (R : Option Addr) (c : Nat) (cur : List ElItem),k ≤ ns.length ∧ i = .int .i64 k ∧ v = .slice R cur.length c ∧ Hid (cur = selTo (nwP bs) ns k) ∧ cur.length ≤ k ∧ OwnE 4 encItem 69 wr w.heap.size R c cur ∧ Below w.heap.size w wr) (fun _ i _ _ => ns.length - (intOf i).toNat)
 case atStart => exact ⟨0,_,0,[],Nat.zero_le _,rfl,rfl,Lib.hid (selTo_zero _ _).symm,Nat.le_refl _,hemp,hemb⟩
 case round =>
  clear hemp hemb;obtain ⟨k,R,c,cur,hk,rfl,rfl,hcur,hck,hown,hbl⟩:=hrel;have hsz:=hbl.size;by_cases hklt : k < ns.length
  ·have k1 : decide ((k : Int) < (ns.length : Int)) = true:=by simp [hklt]
   have k2 : decide (k < ns.length) = true:=by simp [hklt]
   go_wp2_with fail
   refine (specFeedValid_any A cap B bs wr (h.below (hbl.mono hB)) (Nat.le_trans hB hsz) (by omega) (fd_sz HVB.out)).mono ?_;rintro e w1 ⟨rfl,hb1⟩;rw [HVB.out];have hbl1:=hbl.trans (hb1.mono hsz)
   go_wp2_with fail
   refine (specFeedValid_any T capT B ns w1 (ht.below (hbl1.mono hB)) (Nat.le_trans hB hbl1.size) (by omega) (fd_sz HVA.out)).mono ?_;rintro e w2 ⟨rfl,hb2⟩;rw [HVA.out];have hbl2:=hbl1.trans (hb2.mono hbl1.size);have hs2:=hbl2.size;have hown2:=Own.below (Own.below hown hb1) hb2;have ho2:=h.below (hbl2.mono hB);clear hb1 hb2 hbl1 hbl hown;obtain ⟨b,off,rfl,hb,hc⟩:=(ht.below (hbl2.mono hB)).at_ (by omega);have c0 : w2.cell? ⟨b,off + k * 4,none⟩ = some (Value.string (gt ns k).1):=hc k 0 (by omega) (by omega);have c1 : w2.cell? ⟨b,off + k * 4 + 1,none⟩ = some (Value.string (gt ns k).2.1):=hc k 1 (by omega) (by omega);have c2 : w2.cell? ⟨b,off + k * 4 + 2,none⟩ = some (Value.string (gt ns k).2.2.1):=hc k 2 (by omega) (by omega);have c3 : w2.cell? ⟨b,off + k * 4 + 3,none⟩ = some (Value.int .i64 (gt ns k).2.2.2):=hc k 3 (by omega) (by omega);clear hc
   go_wp2_with fail
   refine (specItemWith_any A cap B bs (gt ns k).1 w2 ho2 (by omega) HVB.out).mono ?_;rintro e w3 ⟨rfl,hb3⟩;have hbl3:=hbl2.trans (hb3.mono hs2);have hs3:=hbl3.size;have hown3:=Own.below hown2 hb3;have hbw : b < w2.heap.size:=by omega
   have f0:=(hb3.cell (by exact hbw)).trans c0;have f1:=(hb3.cell (by exact hbw)).trans c1;have f2:=(hb3.cell (by exact hbw)).trans c2;have f3:=(hb3.cell (by exact hbw)).trans c3;obtain ⟨z,hz⟩ : ∃ z,z = iwOf bs (gt ns k).1:=⟨_,rfl⟩;rw [← hz];obtain ⟨q,hq⟩ : ∃ q,q = hasK bs (gt ns k).1:=⟨_,rfl⟩;rw [← hq];have g0 : (w3.alloc (.cells #[.string z.1,.string z.2.1,.string z.2.2.1,.int .i64 z.2.2.2] 69)).cell? ⟨b,off + k * 4,none⟩ = some (Value.string (gt ns k).1):=(((Below.refl w3.heap.size w3).alloc (Nat.le_refl _) _).cell (by show b < w3.heap.size; have:=hb3.size; omega)).trans f0;have g1 : (w3.alloc (.cells #[.string z.1,.string z.2.1,.string z.2.2.1,.int .i64 z.2.2.2] 69)).cell? ⟨b,off + k * 4 + 1,none⟩ = some (Value.string (gt ns k).2.1):=(((Below.refl w3.heap.size w3).alloc (Nat.le_refl _) _).cell (by show b < w3.heap.size; have:=hb3.size; omega)).trans f1;have g2 : (w3.alloc (.cells #[.string z.1,.string z.2.1,.string z.2.2.1,.int .i64 z.2.2.2] 69)).cell? ⟨b,off + k * 4 + 2,none⟩ = some (Value.string (gt ns k).2.2.1):=(((Below.refl w3.heap.size w3).alloc (Nat.le_refl _) _).cell (by show b < w3.heap.size; have:=hb3.size; omega)).trans f2;have g3 : (w3.alloc (.cells #[.string z.1,.string z.2.1,.string z.2.2.1,.int .i64 z.2.2.2] 69)).cell? ⟨b,off + k * 4 + 3,none⟩ = some (Value.int .i64 (gt ns k).2.2.2):=(((Below.refl w3.heap.size w3).alloc (Nat.le_refl _) _).cell (by show b < w3.heap.size; have:=hb3.size; omega)).trans f3;have e0 : (w3.alloc (.cells #[.string z.1,.string z.2.1,.string z.2.2.1,.int .i64 z.2.2.2] 69)).cell? ⟨w3.heap.size,0,none⟩ = some (Value.string z.1):=by rw [World.cell?_alloc_at _ _ _ _ rfl]; rfl
   have e1 : (w3.alloc (.cells #[.string z.1,.string z.2.1,.string z.2.2.1,.int .i64 z.2.2.2] 69)).cell? ⟨w3.heap.size,1,none⟩ = some (Value.string z.2.1):=by rw [World.cell?_alloc_at _ _ _ _ rfl]; rfl
   have e2 : (w3.alloc (.cells #[.string z.1,.string z.2.1,.string z.2.2.1,.int .i64 z.2.2.2] 69)).cell? ⟨w3.heap.size,2,none⟩ = some (Value.string z.2.2.1):=by rw [World.cell?_alloc_at _ _ _ _ rfl]; rfl
   have e3 : (w3.alloc (.cells #[.string z.1,.string z.2.1,.string z.2.2.1,.int .i64 z.2.2.2] 69)).cell? ⟨w3.heap.size,3,none⟩ = some (Value.int .i64 z.2.2.2):=by rw [World.cell?_alloc_at _ _ _ _ rfl]; rfl
   have hbl4 : Below w.heap.size w (w3.alloc (.cells #[.string z.1,.string z.2.1,.string z.2.2.1,.int .i64 z.2.2.2] 69)):=hbl3.alloc hs3 _;have hown4:=Own.below hown3 ((Below.refl _ _).alloc (Nat.le_refl _) (.cells #[.string z.1,.string z.2.1,.string z.2.2.1,.int .i64 z.2.2.2] 69));clear c0 f0 c1 f1 c2 f2 c3 f3 hbl2 hown2;clear e0 e1 e2 e3;cases q
   ·have HN:=Lib.hid (selTo_is (p:=nwP bs) hklt (show (!hasK bs (gt ns k).1) = true by rw [← hq]; rfl))
    clear hq hz;have RE:=rd_elem (w3.alloc (.cells #[.string z.1,.string z.2.1,.string z.2.2.1,.int .i64 z.2.2.2] 69)) 69 #[Value.string (gt ns k).1,Value.string (gt ns k).2.1,Value.string (gt ns k).2.2.1,Value.int .i64 (gt ns k).2.2.2] (sz:=4) (enc:=encItem) (gt ns k) (fun j hj => by rcases (by omega : j = 0 ∨ j = 1 ∨ j = 2 ∨ j = 3) with rfl | rfl | rfl | rfl <;> rfl);rw [show (w3.alloc (.cells #[.string z.1,.string z.2.1,.string z.2.2.1,.int .i64 z.2.2.2] 69)).heap.size = w3.heap.size + 1 by simp] at RE;have HRE:=Lib.hid RE;clear RE
    go_wp2_with (at_builtin; refine wpList_app rfl (.tmp 36) (.tmp 41) _ rfl w.heap.size 69 _ 4 56 Tryz.underlying30 info_Item rfl (by omega) R (some ⟨w3.heap.size + 1,0,none⟩) cur.length c 1 1 (w3.heap.size + 1 + 1) (cE 4 encItem cur) (encItem (gt ns k)) rfl rfl (Own.below hown4 ((Below.refl _ _).alloc (Nat.le_refl _) _)) HRE.out (fun _ _ => encItem_one _ _) (by simp only [maxLen]; omega) (by omega) (by first | omega | (simp; done) | (simp; omega)) ?_; intro T1 cap1 w5 hown5 hg5)
    go_roundw
    case rel => exact ⟨k + 1,T1,cap1,cur ++ [(gt ns k)],by omega,by go_num,by rw [List.length_append]; rfl,Lib.hid (by rw [HN.out,← hcur.out]),by rw [List.length_append]; simp; omega,OwnE.snoc (by omega) hown5,hbl4.trans (((Below.refl _ _).alloc hbl4.size _).trans (grown_below hg5 (fun b hb => (Own.lt hown4 hb).1) (by first | omega | (simp; done) | (simp; omega))))⟩
    case measure => simp [intOf]; omega
   ·have HN:=Lib.hid (selTo_not (p:=nwP bs) hklt (show (!hasK bs (gt ns k).1) = false by rw [← hq]; rfl))
    clear hq hz
    go_wp2_with fail
    go_roundw
    case rel => exact ⟨k + 1,R,c,cur,by omega,by go_num,rfl,Lib.hid (by rw [HN.out,← hcur.out]),by omega,hown4,hbl4⟩
    case measure => simp [intOf]; omega
  ·obtain rfl : k = ns.length:=by omega
   go_wp2_with fail
   go_ret;have hfin : cur = nwOf bs ns:=by rw [hcur.out]; rw [selTo_all]; rfl
   subst hfin;exact ⟨_,_,rfl,hown,hbl⟩
set_option maxHeartbeats 1600000 in
theorem specChangedItems_any (A : Option Addr) (cap : Nat) (T : Option Addr) (capT B : Nat) (bs ns : List ElItem) (w : World) (h : RdE 4 encItem w B A bs) (ht : RdE 4 encItem w B T ns) (hB : B ≤ w.heap.size) (hvb : fdB bs = true) (hva : fdB ns = true) :
    Calls Tryz.prog 89 #[.slice A bs.length cap,.slice T ns.length capT] w fun e w' => ∃ R cR,e = .returned (.slice R (chOf bs ns).length cR) ∧ OwnE 4 encItem 69 w' w.heap.size R cR (chOf bs ns) ∧ Below w.heap.size w w':=by
 have hemp : OwnE 4 encItem 69 (w.alloc (.cells #[] 69)) w.heap.size (some ⟨w.heap.size,0,none⟩) 0 ([] : List ElItem):=Own.lit w 69 4 0 #[] _ (Nat.zero_le _) rfl;have hemb : Below w.heap.size w (w.alloc (.cells #[] 69)):=(Below.refl _ _).alloc (Nat.le_refl _) _;have hb8:=fd_len hvb;have hn8:=fd_len hva;have HVB:=Lib.hid hvb;have HVA:=Lib.hid hva;clear hvb hva;go_enter Tryz.func89,Tryz.ntmps89
 go_wp2_with fail
 go_loopw [5,6,8] (fun v i _ wr => ∃ (k : Nat) (R : Option Addr) (c : Nat) (cur : List ElItem),k ≤ ns.length ∧ i = .int .i64 k ∧ v = .slice R cur.length c ∧ Hid (cur = selTo (chP bs) ns k) ∧ cur.length ≤ k ∧ OwnE 4 encItem 69 wr w.heap.size R c cur ∧ Below w.heap.size w wr) (fun _ i _ _ => ns.length - (intOf i).toNat)
 case atStart => exact ⟨0,_,0,[],Nat.zero_le _,rfl,rfl,Lib.hid (selTo_zero _ _).symm,Nat.le_refl _,hemp,hemb⟩
 case round =>
  clear hemp hemb;obtain ⟨k,R,c,cur,hk,rfl,rfl,hcur,hck,hown,hbl⟩:=hrel;have hsz:=hbl.size;by_cases hklt : k < ns.length
  ·have k1 : decide ((k : Int) < (ns.length : Int)) = true:=by simp [hklt]
   have k2 : decide (k < ns.length) = true:=by simp [hklt]
   go_wp2_with fail
   refine (specFeedValid_any A cap B bs wr (h.below (hbl.mono hB)) (Nat.le_trans hB hsz) (by omega) (fd_sz HVB.out)).mono ?_;rintro e w1 ⟨rfl,hb1⟩;rw [HVB.out];have hbl1:=hbl.trans (hb1.mono hsz)
   go_wp2_with fail
   refine (specFeedValid_any T capT B ns w1 (ht.below (hbl1.mono hB)) (Nat.le_trans hB hbl1.size) (by omega) (fd_sz HVA.out)).mono ?_;rintro e w2 ⟨rfl,hb2⟩;rw [HVA.out];have hbl2:=hbl1.trans (hb2.mono hbl1.size);have hs2:=hbl2.size;have hown2:=Own.below (Own.below hown hb1) hb2;have ho2:=h.below (hbl2.mono hB);clear hb1 hb2 hbl1 hbl hown;obtain ⟨b,off,rfl,hb,hc⟩:=(ht.below (hbl2.mono hB)).at_ (by omega);have c0 : w2.cell? ⟨b,off + k * 4,none⟩ = some (Value.string (gt ns k).1):=hc k 0 (by omega) (by omega);have c1 : w2.cell? ⟨b,off + k * 4 + 1,none⟩ = some (Value.string (gt ns k).2.1):=hc k 1 (by omega) (by omega);have c2 : w2.cell? ⟨b,off + k * 4 + 2,none⟩ = some (Value.string (gt ns k).2.2.1):=hc k 2 (by omega) (by omega);have c3 : w2.cell? ⟨b,off + k * 4 + 3,none⟩ = some (Value.int .i64 (gt ns k).2.2.2):=hc k 3 (by omega) (by omega);clear hc
   go_wp2_with fail
   refine (specItemWith_any A cap B bs (gt ns k).1 w2 ho2 (by omega) HVB.out).mono ?_;rintro e w3 ⟨rfl,hb3⟩;have hbl3:=hbl2.trans (hb3.mono hs2);have hs3:=hbl3.size;have hown3:=Own.below hown2 hb3;have hbw : b < w2.heap.size:=by omega
   have f0:=(hb3.cell (by exact hbw)).trans c0;have f1:=(hb3.cell (by exact hbw)).trans c1;have f2:=(hb3.cell (by exact hbw)).trans c2;have f3:=(hb3.cell (by exact hbw)).trans c3;obtain ⟨z,hz⟩ : ∃ z,z = iwOf bs (gt ns k).1:=⟨_,rfl⟩;rw [← hz];obtain ⟨q,hq⟩ : ∃ q,q = hasK bs (gt ns k).1:=⟨_,rfl⟩;rw [← hq];have g0 : (w3.alloc (.cells #[.string z.1,.string z.2.1,.string z.2.2.1,.int .i64 z.2.2.2] 69)).cell? ⟨b,off + k * 4,none⟩ = some (Value.string (gt ns k).1):=(((Below.refl w3.heap.size w3).alloc (Nat.le_refl _) _).cell (by show b < w3.heap.size; have:=hb3.size; omega)).trans f0;have g1 : (w3.alloc (.cells #[.string z.1,.string z.2.1,.string z.2.2.1,.int .i64 z.2.2.2] 69)).cell? ⟨b,off + k * 4 + 1,none⟩ = some (Value.string (gt ns k).2.1):=(((Below.refl w3.heap.size w3).alloc (Nat.le_refl _) _).cell (by show b < w3.heap.size; have:=hb3.size; omega)).trans f1;have g2 : (w3.alloc (.cells #[.string z.1,.string z.2.1,.string z.2.2.1,.int .i64 z.2.2.2] 69)).cell? ⟨b,off + k * 4 + 2,none⟩ = some (Value.string (gt ns k).2.2.1):=(((Below.refl w3.heap.size w3).alloc (Nat.le_refl _) _).cell (by show b < w3.heap.size; have:=hb3.size; omega)).trans f2;have g3 : (w3.alloc (.cells #[.string z.1,.string z.2.1,.string z.2.2.1,.int .i64 z.2.2.2] 69)).cell? ⟨b,off + k * 4 + 3,none⟩ = some (Value.int .i64 (gt ns k).2.2.2):=(((Below.refl w3.heap.size w3).alloc (Nat.le_refl _) _).cell (by show b < w3.heap.size; have:=hb3.size; omega)).trans f3;have e0 : (w3.alloc (.cells #[.string z.1,.string z.2.1,.string z.2.2.1,.int .i64 z.2.2.2] 69)).cell? ⟨w3.heap.size,0,none⟩ = some (Value.string z.1):=by rw [World.cell?_alloc_at _ _ _ _ rfl]; rfl
   have e1 : (w3.alloc (.cells #[.string z.1,.string z.2.1,.string z.2.2.1,.int .i64 z.2.2.2] 69)).cell? ⟨w3.heap.size,1,none⟩ = some (Value.string z.2.1):=by rw [World.cell?_alloc_at _ _ _ _ rfl]; rfl
   have e2 : (w3.alloc (.cells #[.string z.1,.string z.2.1,.string z.2.2.1,.int .i64 z.2.2.2] 69)).cell? ⟨w3.heap.size,2,none⟩ = some (Value.string z.2.2.1):=by rw [World.cell?_alloc_at _ _ _ _ rfl]; rfl
   have e3 : (w3.alloc (.cells #[.string z.1,.string z.2.1,.string z.2.2.1,.int .i64 z.2.2.2] 69)).cell? ⟨w3.heap.size,3,none⟩ = some (Value.int .i64 z.2.2.2):=by rw [World.cell?_alloc_at _ _ _ _ rfl]; rfl
   have hbl4 : Below w.heap.size w (w3.alloc (.cells #[.string z.1,.string z.2.1,.string z.2.2.1,.int .i64 z.2.2.2] 69)):=hbl3.alloc hs3 _;have hown4:=Own.below hown3 ((Below.refl _ _).alloc (Nat.le_refl _) (.cells #[.string z.1,.string z.2.1,.string z.2.2.1,.int .i64 z.2.2.2] 69));clear c0 f0 c1 f1 c2 f2 c3 f3 hbl2 hown2;cases q
   ·have HN:=Lib.hid (selTo_not (p:=chP bs) hklt (show (hasK bs (gt ns k).1 && !eqEl (iwOf bs (gt ns k).1) (gt ns k)) = false by rw [← hq]; rfl))
    clear hq hz
    go_wp2_with fail
    go_quiet (fail)
    go_wp2_with fail
    go_roundw
    case rel => exact ⟨k + 1,R,c,cur,by omega,by go_num,rfl,Lib.hid (by rw [HN.out,← hcur.out]),by omega,Own.drewN hown4 _,below_drewN hbl4 _⟩
    case measure => simp [intOf]; omega
   ·have hneq:=fun w' => neq_Item z.1 z.2.1 z.2.2.1 z.2.2.2 (gt ns k).1 (gt ns k).2.1 (gt ns k).2.2.1 (gt ns k).2.2.2 w'
    have hgd:=guard_Item;cases he : eqEl z (gt ns k)
    ·have hp : chP bs (gt ns k) = true:=by unfold chP; rw [← hq,← hz,he]; rfl
     have hn : eqEl (α:=ElItem) (z.1,z.2.1,z.2.2.1,z.2.2.2) ((gt ns k).1,(gt ns k).2.1,(gt ns k).2.2.1,(gt ns k).2.2.2) = false:=he;have HN:=Lib.hid (selTo_is (p:=chP bs) hklt hp);clear hq hz he hp
     go_wp2_with fail
     go_quiet (fail)
     obtain ⟨W2,hW2⟩ : ∃ W2,W2 = (w3.alloc (.cells #[.string z.1,.string z.2.1,.string z.2.2.1,.int .i64 z.2.2.2] 69)).drewN nq:=⟨_,rfl⟩;have hbl5 : Below w.heap.size w W2:=by rw [hW2]; exact below_drewN hbl4 _
     have hownW : OwnE 4 encItem 69 W2 w.heap.size R c cur:=by rw [hW2]; exact Own.drewN hown4 _
     have p0 : W2.cell? ⟨b,off + k * 4,none⟩ = some (Value.string (gt ns k).1):=by rw [hW2]; exact g0
     have p1 : W2.cell? ⟨b,off + k * 4 + 1,none⟩ = some (Value.string (gt ns k).2.1):=by rw [hW2]; exact g1
     have p2 : W2.cell? ⟨b,off + k * 4 + 2,none⟩ = some (Value.string (gt ns k).2.2.1):=by rw [hW2]; exact g2
     have p3 : W2.cell? ⟨b,off + k * 4 + 3,none⟩ = some (Value.int .i64 (gt ns k).2.2.2):=by rw [hW2]; exact g3
     rw [← hW2];clear hn hneq hW2 hbl4 hown4 hbl3 hown3 hb3 g0 g1 g2 g3 e0 e1 e2 e3;have hs5:=hbl5.size
     go_wp2_with (at_builtin; refine wpList_app rfl (.tmp 43) (.tmp 48) _ rfl w.heap.size 69 _ 4 56 Tryz.underlying30 info_Item rfl (by omega) R (some ⟨W2.heap.size,0,none⟩) cur.length c 1 1 (W2.heap.size + 1) (cE 4 encItem cur) (encItem (gt ns k)) rfl rfl (Own.below hownW ((Below.refl _ _).alloc (Nat.le_refl _) _)) (rd_elem _ _ _ _ (fun j hj => by rcases (by omega : j = 0 ∨ j = 1 ∨ j = 2 ∨ j = 3) with rfl | rfl | rfl | rfl <;> rfl)) (fun _ _ => encItem_one _ _) (by simp only [maxLen]; omega) (by omega) (by first | omega | (simp; done) | (simp; omega)) ?_; intro T1 cap1 w5 hown5 hg5)
     go_roundw
     case rel => exact ⟨k + 1,T1,cap1,cur ++ [(gt ns k)],by omega,by go_num,by rw [List.length_append]; rfl,Lib.hid (by rw [HN.out,← hcur.out]),by rw [List.length_append]; simp; omega,OwnE.snoc (by omega) hown5,hbl5.trans (((Below.refl _ _).alloc hbl5.size _).trans (grown_below hg5 (fun b hb => (Own.lt hownW hb).1) (by first | omega | (simp; done) | (simp; omega))))⟩
     case measure => simp [intOf]; omega
    ·have hp : chP bs (gt ns k) = false:=by unfold chP; rw [← hq,← hz,he]; rfl
     have hn : eqEl (α:=ElItem) (z.1,z.2.1,z.2.2.1,z.2.2.2) ((gt ns k).1,(gt ns k).2.1,(gt ns k).2.2.1,(gt ns k).2.2.2) = true:=he;have HN:=Lib.hid (selTo_not (p:=chP bs) hklt hp);clear hq hz he hp
     go_wp2_with fail
     go_quiet (fail)
     go_wp2_with fail
     go_roundw
     case rel => exact ⟨k + 1,R,c,cur,by omega,by go_num,rfl,Lib.hid (by rw [HN.out,← hcur.out]),by omega,Own.drewN hown4 _,below_drewN hbl4 _⟩
     case measure => simp [intOf]; omega
  ·obtain rfl : k = ns.length:=by omega
   go_wp2_with fail
   go_ret;have hfin : cur = chOf bs ns:=by rw [hcur.out]; rw [selTo_all]; rfl
   subst hfin;exact ⟨_,_,rfl,hown,hbl⟩
set_option maxHeartbeats 1600000 in
theorem specGoneKeys_any (A : Option Addr) (cap : Nat) (T : Option Addr) (capT B : Nat) (bs ns : List ElItem) (w : World) (h : RdE 4 encItem w B A bs) (ht : RdE 4 encItem w B T ns) (hB : B ≤ w.heap.size) (hvb : fdB bs = true) (hva : fdB ns = true) :
    Calls Tryz.prog 90 #[.slice A bs.length cap,.slice T ns.length capT] w fun e w' => ∃ R cR,e = .returned (.slice R (gkOf bs ns).length cR) ∧ OwnE 1 encStr 9 w' w.heap.size R cR (gkOf bs ns) ∧ Below w.heap.size w w':=by
 have hemp : OwnE 1 encStr 9 (w.alloc (.cells #[] 9)) w.heap.size (some ⟨w.heap.size,0,none⟩) 0 ([] : List ByteArray):=Own.lit w 9 1 0 #[] _ (Nat.zero_le _) rfl;have hemb : Below w.heap.size w (w.alloc (.cells #[] 9)):=(Below.refl _ _).alloc (Nat.le_refl _) _;have hb8:=fd_len hvb;have hn8:=fd_len hva;have HVB:=Lib.hid hvb;have HVA:=Lib.hid hva;clear hvb hva;go_enter Tryz.func90,Tryz.ntmps90
 go_wp2_with fail
 refine (specNewItems_any T capT A cap B ns bs _ (ht.below (hemb.mono hB)) (h.below (hemb.mono hB)) (Nat.le_trans hB hemb.size) HVA.out HVB.out).mono ?_;rintro e w1 ⟨Q,cQ,rfl,oQ,b1⟩;have hb1w:=hemb.trans (b1.mono hemb.size);have hs1:=hb1w.size;have hemp1:=Own.below hemp b1;have hqb : ∀ b,blk Q = some b → w.heap.size < b ∧ b < w1.heap.size:=fun b hb => by have:=Own.lt oQ hb; simp at this; omega
 have oQ1:=Own.more oQ hemb.size;have hql:=nwOf_len ns bs;have HG : Hid (gkOf bs ns = (nwOf ns bs).map (·.1)):=Lib.hid rfl;generalize nwOf ns bs = qs at *
 clear hemp hemb b1 oQ
 go_wp2_with fail
 go_loopw [5,7] (fun v i wr => ∃ (k : Nat) (R : Option Addr) (c : Nat) (cur : List ByteArray),k ≤ qs.length ∧ i = .int .i64 k ∧ v = .slice R cur.length c ∧ Hid (cur = (qs.take k).map (·.1)) ∧ cur.length ≤ k ∧ OwnE 1 encStr 9 wr w.heap.size R c cur ∧ (∀ b,blk R = some b → b = w.heap.size ∨ w1.heap.size ≤ b) ∧ OwnE 4 encItem 69 wr w.heap.size Q cQ qs ∧ w1.heap.size ≤ wr.heap.size ∧ Below w.heap.size w wr) (fun _ i _ => qs.length - (intOf i).toNat)
 case atStart => exact ⟨0,_,0,[],Nat.zero_le _,rfl,rfl,Lib.hid rfl,Nat.le_refl _,hemp1,fun b hb => .inl (by simp [blk] at hb; omega),oQ1,Nat.le_refl _,hb1w⟩
 case round =>
  clear hemp1 hb1w oQ1;obtain ⟨k,R,c,cur,hk,rfl,rfl,hcur,hck,hown,hR,hoQ,hz1,hbl⟩:=hrel;have hsz:=hbl.size;by_cases hklt : k < qs.length
  ·obtain ⟨b,off,rfl,hb,hc⟩:=(OwnE.rd hoQ).at_ (by omega)
   obtain ⟨hb1,hb2⟩:=hqb b rfl;have c0 : wr.cell? ⟨b,off + k * 4,none⟩ = some (Value.string (gt qs k).1):=hc k 0 (by omega) (by omega);have c1 : wr.cell? ⟨b,off + k * 4 + 1,none⟩ = some (Value.string (gt qs k).2.1):=hc k 1 (by omega) (by omega);have c2 : wr.cell? ⟨b,off + k * 4 + 2,none⟩ = some (Value.string (gt qs k).2.2.1):=hc k 2 (by omega) (by omega);have c3 : wr.cell? ⟨b,off + k * 4 + 3,none⟩ = some (Value.int .i64 (gt qs k).2.2.2):=hc k 3 (by omega) (by omega);clear hc;have HN : Hid ((qs.take (k + 1)).map (·.1) = (qs.take k).map (·.1) ++ [(gt qs k).1]):=Lib.hid (by rw [take_snoc hklt,List.map_append]; rfl)
   go_wp2_with (at_builtin; refine wpList_app2 rfl (.tmp 18) (.tmp 24) _ rfl w.heap.size 9 _ 1 16 Tryz.underlying51 info_String rfl (by omega) R (some ⟨wr.heap.size,0,none⟩) cur.length c 1 1 (wr.heap.size + 1) (cE 1 encStr cur) (encStr (gt qs k).1) rfl rfl (Own.below hown ((Below.refl _ _).alloc (Nat.le_refl _) _)) (rd_elem _ _ _ _ (fun j hj => by rcases (by omega : j = 0) with rfl; rfl)) (fun _ _ => encStr_one _ _) (by simp only [maxLen]; omega) (by omega) (by first | omega | (simp; done) | (simp; omega)) (by omega) ?_; intro T1 cap1 w5 hown5 hg5 hpl)
   go_roundw
   case rel =>
    have hg6 : wr.heap.size < w5.heap.size:=by have:=hg5.size; simp at this; omega
    refine ⟨k + 1,T1,cap1,cur ++ [(gt qs k).1],by omega,by go_num,by rw [List.length_append]; rfl,Lib.hid (by rw [HN.out,← hcur.out]),by rw [List.length_append]; simp; omega,OwnE.snoc (by omega) hown5,fun b hb => ?_,?_,by omega,hbl.trans (((Below.refl _ _).alloc hbl.size _).trans (grown_below hg5 (fun b hb => (Own.lt hown hb).1) (by first | omega | (simp; done) | (simp; omega))))⟩
    ·rcases hpl with h | h
     ·exact hR b (by rw [← h]; exact hb)
     ·have:=h b hb
      simp at this;exact .inr (by omega)
    ·refine Own.kept (Own.below hoQ ((Below.refl _ _).alloc (Nat.le_refl _) _)) hg5 (.inr fun e => ?_)
     have:=hR b e.symm;omega
   case measure => simp [intOf]; omega
  ·obtain rfl : k = qs.length:=by omega
   go_wp2_with fail
   go_ret;have hfin : cur = gkOf bs ns:=by rw [hcur.out,HG.out,List.take_length]
   subst hfin;exact ⟨_,_,rfl,hown,hbl⟩
set_option maxHeartbeats 1600000 in
theorem specMergeFeeds_any (A : Option Addr) (cap : Nat) (T : Option Addr) (capT B : Nat) (bs ns : List ElItem) (w : World) (h : RdE 4 encItem w B A bs) (ht : RdE 4 encItem w B T ns) (hB : B ≤ w.heap.size) (hvb : fdB bs = true) (hva : fdB ns = true) :
    Calls Tryz.prog 40 #[.slice A bs.length cap,.slice T ns.length capT] w fun e w' => ∃ R cR,e = .returned (.slice R (mfOf bs ns).length cR) ∧ OwnE 4 encItem 69 w' w.heap.size R cR (mfOf bs ns) ∧ Below w.heap.size w w':=by
 have hemp : OwnE 4 encItem 69 (w.alloc (.cells #[] 69)) w.heap.size (some ⟨w.heap.size,0,none⟩) 0 ([] : List ElItem):=Own.lit w 69 4 0 #[] _ (Nat.zero_le _) rfl;have hemb : Below w.heap.size w (w.alloc (.cells #[] 69)):=(Below.refl _ _).alloc (Nat.le_refl _) _;have hb8:=fd_len hvb;have hn8:=fd_len hva;have HVB:=Lib.hid hvb;have HVA:=Lib.hid hva;clear hvb hva;go_enter Tryz.func40,Tryz.ntmps40
 go_wp2_with fail
 go_loopw [5,6,8] (fun v i _ wr => ∃ (k : Nat) (R : Option Addr) (c : Nat) (cur : List ElItem),k ≤ bs.length ∧ i = .int .i64 k ∧ v = .slice R cur.length c ∧ Hid (cur = (bs.take k).map (mfI ns)) ∧ cur.length ≤ k ∧ OwnE 4 encItem 69 wr w.heap.size R c cur ∧ Below w.heap.size w wr) (fun _ i _ _ => bs.length - (intOf i).toNat)
 case atStart => exact ⟨0,_,0,[],Nat.zero_le _,rfl,rfl,Lib.hid rfl,Nat.le_refl _,hemp,hemb⟩
 case round =>
  clear hemp hemb;obtain ⟨k,R,c,cur,hk,rfl,rfl,hcur,hck,hown,hbl⟩:=hrel;have hsz:=hbl.size;by_cases hklt : k < bs.length
  ·have k1 : decide ((k : Int) < (bs.length : Int)) = true:=by simp [hklt]
   have k2 : decide (k < bs.length) = true:=by simp [hklt]
   go_wp2_with fail
   refine (specFeedValid_any A cap B bs wr (h.below (hbl.mono hB)) (Nat.le_trans hB hsz) (by omega) (fd_sz HVB.out)).mono ?_;rintro e w1 ⟨rfl,hb1⟩;rw [HVB.out];have hbl1:=hbl.trans (hb1.mono hsz)
   go_wp2_with fail
   refine (specFeedValid_any T capT B ns w1 (ht.below (hbl1.mono hB)) (Nat.le_trans hB hbl1.size) (by omega) (fd_sz HVA.out)).mono ?_;rintro e w2 ⟨rfl,hb2⟩;rw [HVA.out];have hbl2:=hbl1.trans (hb2.mono hbl1.size);have hs2:=hbl2.size;have hown2:=Own.below (Own.below hown hb1) hb2;have ho2:=ht.below (hbl2.mono hB);clear hb1 hb2 hbl1 hbl hown;obtain ⟨b,off,rfl,hb,hc⟩:=(h.below (hbl2.mono hB)).at_ (by omega);have c0 : w2.cell? ⟨b,off + k * 4,none⟩ = some (Value.string (gt bs k).1):=hc k 0 (by omega) (by omega);have c1 : w2.cell? ⟨b,off + k * 4 + 1,none⟩ = some (Value.string (gt bs k).2.1):=hc k 1 (by omega) (by omega);have c2 : w2.cell? ⟨b,off + k * 4 + 2,none⟩ = some (Value.string (gt bs k).2.2.1):=hc k 2 (by omega) (by omega);have c3 : w2.cell? ⟨b,off + k * 4 + 3,none⟩ = some (Value.int .i64 (gt bs k).2.2.2):=hc k 3 (by omega) (by omega);clear hc
   go_wp2_with fail
   refine (specItemWith_any T capT B ns (gt bs k).1 w2 ho2 (by omega) HVA.out).mono ?_;rintro e w3 ⟨rfl,hb3⟩;have hbl3:=hbl2.trans (hb3.mono hs2);have hs3:=hbl3.size;have hown3:=Own.below hown2 hb3;have hbw : b < w2.heap.size:=by omega
   have f0:=(hb3.cell (by exact hbw)).trans c0;have f1:=(hb3.cell (by exact hbw)).trans c1;have f2:=(hb3.cell (by exact hbw)).trans c2;have f3:=(hb3.cell (by exact hbw)).trans c3;obtain ⟨z,hz⟩ : ∃ z,z = iwOf ns (gt bs k).1:=⟨_,rfl⟩;rw [← hz];obtain ⟨q,hq⟩ : ∃ q,q = hasK ns (gt bs k).1:=⟨_,rfl⟩;rw [← hq];have g0 : (w3.alloc (.cells #[.string z.1,.string z.2.1,.string z.2.2.1,.int .i64 z.2.2.2] 69)).cell? ⟨b,off + k * 4,none⟩ = some (Value.string (gt bs k).1):=(((Below.refl w3.heap.size w3).alloc (Nat.le_refl _) _).cell (by show b < w3.heap.size; have:=hb3.size; omega)).trans f0;have g1 : (w3.alloc (.cells #[.string z.1,.string z.2.1,.string z.2.2.1,.int .i64 z.2.2.2] 69)).cell? ⟨b,off + k * 4 + 1,none⟩ = some (Value.string (gt bs k).2.1):=(((Below.refl w3.heap.size w3).alloc (Nat.le_refl _) _).cell (by show b < w3.heap.size; have:=hb3.size; omega)).trans f1;have g2 : (w3.alloc (.cells #[.string z.1,.string z.2.1,.string z.2.2.1,.int .i64 z.2.2.2] 69)).cell? ⟨b,off + k * 4 + 2,none⟩ = some (Value.string (gt bs k).2.2.1):=(((Below.refl w3.heap.size w3).alloc (Nat.le_refl _) _).cell (by show b < w3.heap.size; have:=hb3.size; omega)).trans f2;have g3 : (w3.alloc (.cells #[.string z.1,.string z.2.1,.string z.2.2.1,.int .i64 z.2.2.2] 69)).cell? ⟨b,off + k * 4 + 3,none⟩ = some (Value.int .i64 (gt bs k).2.2.2):=(((Below.refl w3.heap.size w3).alloc (Nat.le_refl _) _).cell (by show b < w3.heap.size; have:=hb3.size; omega)).trans f3;have e0 : (w3.alloc (.cells #[.string z.1,.string z.2.1,.string z.2.2.1,.int .i64 z.2.2.2] 69)).cell? ⟨w3.heap.size,0,none⟩ = some (Value.string z.1):=by rw [World.cell?_alloc_at _ _ _ _ rfl]; rfl
   have e1 : (w3.alloc (.cells #[.string z.1,.string z.2.1,.string z.2.2.1,.int .i64 z.2.2.2] 69)).cell? ⟨w3.heap.size,1,none⟩ = some (Value.string z.2.1):=by rw [World.cell?_alloc_at _ _ _ _ rfl]; rfl
   have e2 : (w3.alloc (.cells #[.string z.1,.string z.2.1,.string z.2.2.1,.int .i64 z.2.2.2] 69)).cell? ⟨w3.heap.size,2,none⟩ = some (Value.string z.2.2.1):=by rw [World.cell?_alloc_at _ _ _ _ rfl]; rfl
   have e3 : (w3.alloc (.cells #[.string z.1,.string z.2.1,.string z.2.2.1,.int .i64 z.2.2.2] 69)).cell? ⟨w3.heap.size,3,none⟩ = some (Value.int .i64 z.2.2.2):=by rw [World.cell?_alloc_at _ _ _ _ rfl]; rfl
   have hbl4 : Below w.heap.size w (w3.alloc (.cells #[.string z.1,.string z.2.1,.string z.2.2.1,.int .i64 z.2.2.2] 69)):=hbl3.alloc hs3 _;have hown4:=Own.below hown3 ((Below.refl _ _).alloc (Nat.le_refl _) (.cells #[.string z.1,.string z.2.1,.string z.2.2.1,.int .i64 z.2.2.2] 69));clear c0 f0 c1 f1 c2 f2 c3 f3 hbl2 hown2;cases q
   ·have hf : mfI ns (gt bs k) = (gt bs k):=by unfold mfI; rw [← hq]; rfl
    have HN : Hid ((bs.take (k + 1)).map (mfI ns) = (bs.take k).map (mfI ns) ++ [(gt bs k)]):=Lib.hid (by rw [take_snoc hklt,List.map_append]; show _ ++ [mfI ns (gt bs k)] = _; rw [hf]);clear hq hz hf;skip;have hblV : Below w.heap.size w (w3.alloc (.cells #[.string (gt bs k).1,.string (gt bs k).2.1,.string (gt bs k).2.2.1,.int .i64 (gt bs k).2.2.2] 69)):=hbl3.alloc hs3 _;have hownV:=Own.below hown3 ((Below.refl _ _).alloc (Nat.le_refl _) (.cells #[.string (gt bs k).1,.string (gt bs k).2.1,.string (gt bs k).2.2.1,.int .i64 (gt bs k).2.2.2] 69));have d0 : (w3.alloc (.cells #[.string (gt bs k).1,.string (gt bs k).2.1,.string (gt bs k).2.2.1,.int .i64 (gt bs k).2.2.2] 69)).cell? ⟨w3.heap.size,0,none⟩ = some (Value.string (gt bs k).1):=by rw [World.cell?_alloc_at _ _ _ _ rfl]; rfl
    have d1 : (w3.alloc (.cells #[.string (gt bs k).1,.string (gt bs k).2.1,.string (gt bs k).2.2.1,.int .i64 (gt bs k).2.2.2] 69)).cell? ⟨w3.heap.size,1,none⟩ = some (Value.string (gt bs k).2.1):=by rw [World.cell?_alloc_at _ _ _ _ rfl]; rfl
    have d2 : (w3.alloc (.cells #[.string (gt bs k).1,.string (gt bs k).2.1,.string (gt bs k).2.2.1,.int .i64 (gt bs k).2.2.2] 69)).cell? ⟨w3.heap.size,2,none⟩ = some (Value.string (gt bs k).2.2.1):=by rw [World.cell?_alloc_at _ _ _ _ rfl]; rfl
    have d3 : (w3.alloc (.cells #[.string (gt bs k).1,.string (gt bs k).2.1,.string (gt bs k).2.2.1,.int .i64 (gt bs k).2.2.2] 69)).cell? ⟨w3.heap.size,3,none⟩ = some (Value.int .i64 (gt bs k).2.2.2):=by rw [World.cell?_alloc_at _ _ _ _ rfl]; rfl
    have RE:=rd_elem (w3.alloc (.cells #[.string (gt bs k).1,.string (gt bs k).2.1,.string (gt bs k).2.2.1,.int .i64 (gt bs k).2.2.2] 69)) 69 #[Value.string (gt bs k).1,Value.string (gt bs k).2.1,Value.string (gt bs k).2.2.1,Value.int .i64 (gt bs k).2.2.2] (sz:=4) (enc:=encItem) (gt bs k) (fun j hj => by rcases (by omega : j = 0 ∨ j = 1 ∨ j = 2 ∨ j = 3) with rfl | rfl | rfl | rfl <;> rfl);rw [show (w3.alloc (.cells #[.string (gt bs k).1,.string (gt bs k).2.1,.string (gt bs k).2.2.1,.int .i64 (gt bs k).2.2.2] 69)).heap.size = w3.heap.size + 1 by simp] at RE;have HRE:=Lib.hid RE;clear RE;clear hown4 hbl4
    go_wp2_with (at_builtin; refine wpList_app rfl (.tmp 40) (.tmp 42) _ rfl w.heap.size 69 _ 4 56 Tryz.underlying30 info_Item rfl (by omega) R (some ⟨w3.heap.size + 1,0,none⟩) cur.length c 1 1 (w3.heap.size + 1 + 1) (cE 4 encItem cur) (encItem (gt bs k)) rfl rfl (Own.below hownV ((Below.refl _ _).alloc (Nat.le_refl _) _)) HRE.out (fun _ _ => encItem_one _ _) (by simp only [maxLen]; omega) (by omega) (by first | omega | (simp; done) | (simp; omega)) ?_; intro T1 cap1 w5 hown5 hg5)
    go_roundw
    case rel => exact ⟨k + 1,T1,cap1,cur ++ [(gt bs k)],by omega,by go_num,by rw [List.length_append]; rfl,Lib.hid (by rw [HN.out,← hcur.out]),by rw [List.length_append]; simp; omega,OwnE.snoc (by omega) hown5,hblV.trans (((Below.refl _ _).alloc hblV.size _).trans (grown_below hg5 (fun b hb => (Own.lt hownV hb).1) (by first | omega | (simp; done) | (simp; omega))))⟩
    case measure => simp [intOf]; omega
   ·have hf : mfI ns (gt bs k) = z:=by unfold mfI; rw [← hq,hz]; rfl
    have HN : Hid ((bs.take (k + 1)).map (mfI ns) = (bs.take k).map (mfI ns) ++ [z]):=Lib.hid (by rw [take_snoc hklt,List.map_append]; show _ ++ [mfI ns (gt bs k)] = _; rw [hf]);clear hq hz hf;have RE:=rd_elem (w3.alloc (.cells #[.string z.1,.string z.2.1,.string z.2.2.1,.int .i64 z.2.2.2] 69)) 69 #[Value.string z.1,Value.string z.2.1,Value.string z.2.2.1,Value.int .i64 z.2.2.2] (sz:=4) (enc:=encItem) z (fun j hj => by rcases (by omega : j = 0 ∨ j = 1 ∨ j = 2 ∨ j = 3) with rfl | rfl | rfl | rfl <;> rfl);rw [show (w3.alloc (.cells #[.string z.1,.string z.2.1,.string z.2.2.1,.int .i64 z.2.2.2] 69)).heap.size = w3.heap.size + 1 by simp] at RE;have HRE:=Lib.hid RE;clear RE
    go_wp2_with (at_builtin; refine wpList_app rfl (.tmp 40) (.tmp 42) _ rfl w.heap.size 69 _ 4 56 Tryz.underlying30 info_Item rfl (by omega) R (some ⟨w3.heap.size + 1,0,none⟩) cur.length c 1 1 (w3.heap.size + 1 + 1) (cE 4 encItem cur) (encItem z) rfl rfl (Own.below hown4 ((Below.refl _ _).alloc (Nat.le_refl _) _)) HRE.out (fun _ _ => encItem_one _ _) (by simp only [maxLen]; omega) (by omega) (by first | omega | (simp; done) | (simp; omega)) ?_; intro T1 cap1 w5 hown5 hg5)
    go_roundw
    case rel => exact ⟨k + 1,T1,cap1,cur ++ [z],by omega,by go_num,by rw [List.length_append]; rfl,Lib.hid (by rw [HN.out,← hcur.out]),by rw [List.length_append]; simp; omega,OwnE.snoc (by omega) hown5,hbl4.trans (((Below.refl _ _).alloc hbl4.size _).trans (grown_below hg5 (fun b hb => (Own.lt hown4 hb).1) (by first | omega | (simp; done) | (simp; omega))))⟩
    case measure => simp [intOf]; omega
  ·obtain rfl : k = bs.length:=by omega
   have hM : cur = bs.map (mfI ns):=by rw [hcur.out,List.take_length]
   clear hcur
   go_wp2_with fail
   refine (specNewItems_any A cap T capT B bs ns wr (h.below (hbl.mono hB)) (ht.below (hbl.mono hB)) (Nat.le_trans hB hsz) HVB.out HVA.out).mono ?_;rintro e w4 ⟨Q,cQ,rfl,o4,b4⟩;have hown4:=Own.below hown b4;have hbl4:=hbl.trans (b4.mono hsz);have hs4:=hbl4.size;have hr4:=OwnE.rd o4;have hnl:=nwOf_len bs ns;have HL : Hid (mfL bs ns = cur ++ nwOf bs ns):=Lib.hid (by rw [hM]; rfl);generalize nwOf bs ns = ws at *
   clear hM o4 b4 hown hbl;by_cases h9 : cur.length + ws.length ≤ 8
   ·have gl : decide ((8 : Int) < (cur.length : Int) + (ws.length : Int)) = false:=decide_eq_false (by omega)
    have HE : Hid (mfOf bs ns = cur ++ ws):=Lib.hid (by unfold mfOf; rw [HL.out,if_pos (by rw [List.length_append]; exact h9)]);clear h9
    go_wp2_with (at_builtin; refine wpList_app rfl (.tmp 44) (.tmp 47) _ rfl w.heap.size 69 _ 4 56 Tryz.underlying30 info_Item rfl (by omega) R Q cur.length c ws.length cQ w4.heap.size (cE 4 encItem cur) (cE 4 encItem ws) rfl rfl hown4 hr4 (fun _ _ => encItem_one _ _) (by simp only [maxLen]; omega) (by omega) hs4 ?_; intro T1 cap1 w5 hown5 hg5)
    go_ret;have ho5:=OwnE.join (by omega) rfl rfl hown5;rw [HE.out];refine ⟨T1,cap1,?_,ho5,hbl4.trans (grown_below hg5 (fun b hb => (Own.lt hown4 hb).1) hs4)⟩;rw [List.length_append];rfl
   ·have gl : decide ((8 : Int) < (cur.length : Int) + (ws.length : Int)) = true:=decide_eq_true (by omega)
    have HE : Hid (mfOf bs ns = []):=Lib.hid (by unfold mfOf; rw [HL.out,if_neg (by rw [List.length_append]; exact h9)]);clear h9
    go_wp2_with (at_builtin; refine wpList_app rfl (.tmp 44) (.tmp 47) _ rfl w.heap.size 69 _ 4 56 Tryz.underlying30 info_Item rfl (by omega) R Q cur.length c ws.length cQ w4.heap.size (cE 4 encItem cur) (cE 4 encItem ws) rfl rfl hown4 hr4 (fun _ _ => encItem_one _ _) (by simp only [maxLen]; omega) (by omega) hs4 ?_; intro T1 cap1 w5 hown5 hg5)
    go_ret;rw [HE.out];have hb5:=hbl4.trans (grown_below hg5 (fun b hb => (Own.lt hown4 hb).1) hs4);have hem5 : OwnE 4 encItem 69 (w5.alloc (.cells #[] 69)) w.heap.size (some ⟨w5.heap.size,0,none⟩) 0 ([] : List ElItem):=Own.more (Own.lit w5 69 4 0 #[] _ (Nat.zero_le _) rfl) hb5.size;exact ⟨_,0,rfl,hem5,hb5.alloc hb5.size _⟩
end Go.Proofs.YtfnmlffpnmmcdaaGreatDoor
namespace Go.Proofs.YtfnmlffpnmmcdaaGreatDoor
set_option maxRecDepth 100000
open Go.RowKit
def encI (x : Int) : Nat → Value:=fun _ => .int .i64 x
theorem info_Int0 : (Tryz.prog.info? 3).map (fun i => (i.zero,i.size,i.bytes)) = some (some (.int .i64 0),1,8):=by kernel_rfl
def Dis (A R : Option Addr) : Prop:=∀ b,blk A = some b → blk R ≠ some b
theorem Dis.kept {A R : Option Addr} (h : Dis A R) : blk A = none ∨ blk A ≠ blk R:=by
 cases hA : blk A with
 | none => exact .inl rfl
 | some b => exact .inr (fun e => h b hA e.symm)
theorem Dis.symm {A R : Option Addr} (h : Dis A R) : Dis R A:=fun b hb e => h b e hb
theorem Dis.grow {A R R1 : Option Addr} {m : Nat} (h : Dis A R) (hA : ∀ b,blk A = some b → b < m) (hp : blk R1 = blk R ∨ ∀ b,blk R1 = some b → m ≤ b) : Dis A R1:=fun b hb e => by
 rcases hp with h1 | h1
 ·exact h b hb (by rw [← h1]; exact e)
 ·have:=h1 b e
  have:=hA b hb;omega
structure TsS (w3 w : World) (RK : Option Addr) (cK : Nat) (RS : Option Addr) (cS : Nat) (ks : List (Int × ByteArray)) : Prop where
 hK : Own w w3.heap.size 3 1 RK ks.length cK (fun j => .int .i64 (gt ks j).1)
 hS : Own w w3.heap.size 9 1 RS ks.length cS (fun j => .string (gt ks j).2)
 dis : Dis RK RS
 bel : Below w3.heap.size w3 w
theorem TsS.below {w3 w w' : World} {RK RS : Option Addr} {cK cS : Nat} {ks : List (Int × ByteArray)} (h : TsS w3 w RK cK RS cS ks) (hb : Below w.heap.size w w') : TsS w3 w' RK cK RS cS ks :=
 ⟨Own.below h.hK hb,Own.below h.hS hb,h.dis,h.bel.trans (hb.mono h.bel.size)⟩
section
variable {w3 wr w5 w6 : World} {RK RS RK1 RS1 : Option Addr} {cK cS cK1 cS1 : Nat} {ks : List (Int × ByteArray)} {o1 o2 : Obj} {x : Int × ByteArray}
theorem TsS.mid (S : TsS w3 wr RK cK RS cS ks) (g5 : (wr.alloc o1).grownBy w5 (blk RK)) : Own w5 w3.heap.size 9 1 RS ks.length cS (fun j => .string (gt ks j).2) :=
 Own.kept (Own.below S.hS ((Below.refl _ _).alloc (Nat.le_refl _) _)) g5 S.dis.symm.kept
theorem TsS.add (S : TsS w3 wr RK cK RS cS ks) (g5 : (wr.alloc o1).grownBy w5 (blk RK)) (p5 : blk RK1 = blk RK ∨ ∀ b,blk RK1 = some b → (wr.alloc o1).heap.size ≤ b)
    (o5 : Own w5 w3.heap.size 3 1 RK1 (ks.length + 1) cK1 (fun j => if j < ks.length * 1 then .int .i64 (gt ks j).1 else encI x.1 (j - ks.length * 1)))
    (g6 : (w5.alloc o2).grownBy w6 (blk RS)) (p6 : blk RS1 = blk RS ∨ ∀ b,blk RS1 = some b → (w5.alloc o2).heap.size ≤ b)
    (o6 : Own w6 w3.heap.size 9 1 RS1 (ks.length + 1) cS1 (fun j => if j < ks.length * 1 then .string (gt ks j).2 else encStr x.2 (j - ks.length * 1))) :
    TsS w3 w6 RK1 cK1 RS1 cS1 (ks ++ [x]):=by
 have hz : wr.heap.size < (wr.alloc o1).heap.size:=by simp
 have hz5 : w5.heap.size < (w5.alloc o2).heap.size:=by simp
 have hS5:=S.mid g5;have d1 : Dis RS RK1:=S.dis.symm.grow (m:=(wr.alloc o1).heap.size) (fun b hb => Nat.lt_trans (Own.lt S.hS hb).2 hz) p5;have hlen : (ks ++ [x]).length = ks.length + 1:=by simp
 have hgt : ∀ j,j < (ks.length + 1) * 1 → (j < ks.length * 1 → gt (ks ++ [x]) j = gt ks j) ∧ (¬ j < ks.length * 1 → gt (ks ++ [x]) j = x):=fun j hj => by
  rw [gt_append];refine ⟨fun h => by rw [if_pos (by omega)],fun h => ?_⟩;rw [if_neg (by omega),show j - ks.length = 0 by omega];rfl
 refine ⟨?_,?_,?_,?_⟩
 ·rw [hlen]
  refine Own.congr (Own.kept (Own.below o5 ((Below.refl _ _).alloc (Nat.le_refl _) o2)) g6 d1.symm.kept) fun j hj => ?_
  by_cases h : j < ks.length * 1
  ·rw [if_pos h,(hgt j hj).1 h]
  ·rw [if_neg h,(hgt j hj).2 h]; rfl
 ·rw [hlen]
  refine Own.congr o6 fun j hj => ?_
  by_cases h : j < ks.length * 1
  ·rw [if_pos h,(hgt j hj).1 h]
  ·rw [if_neg h,(hgt j hj).2 h]; rfl
 ·exact d1.symm.grow (m:=(w5.alloc o2).heap.size) (fun b hb => Nat.lt_trans (Own.lt o5 hb).2 hz5) p6
 ·have b1 : Below w3.heap.size w3 (wr.alloc o1):=S.bel.alloc S.bel.size _
  have b2 : Below w3.heap.size w3 w5:=b1.trans (grown_below g5 (fun b hb => (Own.lt S.hK hb).1) b1.size);have b3 : Below w3.heap.size w3 (w5.alloc o2):=b2.alloc b2.size _;exact b3.trans (grown_below g6 (fun b hb => (Own.lt S.hS hb).1) b3.size)
theorem TsS.mid2 {base e sz n cap : Nat} {A : Option Addr} {f : Nat → Value} (h : Own wr base e sz A n cap f) (hd : Dis A RK) (g5 : (wr.alloc o1).grownBy w5 (blk RK)) : Own w5 base e sz A n cap f :=
 Own.kept (Own.below h ((Below.refl _ _).alloc (Nat.le_refl _) _)) g5 hd.kept
theorem TsS.other {base e sz n cap : Nat} {A : Option Addr} {f : Nat → Value} (h : Own wr base e sz A n cap f) (hd : Dis A RK) (hd2 : Dis A RS) (g5 : (wr.alloc o1).grownBy w5 (blk RK)) (p5 : blk RK1 = blk RK ∨ ∀ b,blk RK1 = some b → (wr.alloc o1).heap.size ≤ b) (g6 : (w5.alloc o2).grownBy w6 (blk RS)) (p6 : blk RS1 = blk RS ∨ ∀ b,blk RS1 = some b → (w5.alloc o2).heap.size ≤ b) :
    Own w6 base e sz A n cap f ∧ Dis A RK1 ∧ Dis A RS1:=by
 have hz : wr.heap.size < (wr.alloc o1).heap.size:=by simp
 have hz5 : w5.heap.size < (w5.alloc o2).heap.size:=by simp
 have h5:=TsS.mid2 h hd g5;exact ⟨Own.kept (Own.below h5 ((Below.refl _ _).alloc (Nat.le_refl _) _)) g6 hd2.kept,hd.grow (m:=(wr.alloc o1).heap.size) (fun b hb => Nat.lt_trans (Own.lt h hb).2 hz) p5,hd2.grow (m:=(w5.alloc o2).heap.size) (fun b hb => Nat.lt_trans (Own.lt h5 hb).2 hz5) p6⟩
theorem Dis.fresh {A R : Option Addr} {m : Nat} (hA : ∀ b,blk A = some b → m ≤ b) (hR : ∀ b,blk R = some b → b < m) : Dis A R:=fun b hb e => by
 have:=hA b hb;have:=hR b e;omega
end
theorem acts_take {ks : List (Int × ByteArray)} {who : ElHandle} {n : Int} {k : Nat} (hk : k < ks.length) : acts who n (ks.take (k + 1)) = acts who n (ks.take k) ++ [((gt ks k).1,n + (k : Int),who.1,who.2,(gt ks k).2)]:=by
 rw [take_snoc hk,acts_snoc,List.length_take,Nat.min_eq_left (Nat.le_of_lt hk)]
theorem kk_step {q : List ElItem} {pre : List (Int × ByteArray)} {c : Int} {k : Nat} (hk : k < q.length) : pre ++ kk c (q.take (k + 1)) = (pre ++ kk c (q.take k)) ++ [(c,(gt q k).1)]:=by
 rw [take_snoc hk,List.append_assoc];unfold kk;rw [List.map_append];rfl
theorem kg_step {q : List ByteArray} {pre : List (Int × ByteArray)} {k : Nat} (hk : k < q.length) : pre ++ kg (q.take (k + 1)) = (pre ++ kg (q.take k)) ++ [(2,gt q k)]:=by
 rw [take_snoc hk,List.append_assoc];unfold kg;rw [List.map_append];rfl
set_option maxHeartbeats 3200000 in
theorem specTellChanges_any (who : ElHandle) (n : Int) (A : Option Addr) (cap : Nat) (T : Option Addr) (capT B : Nat) (bs ns : List ElItem) (w : World) (h : RdE 4 encItem w B A bs) (ht : RdE 4 encItem w B T ns) (hB : B ≤ w.heap.size) (hvb : fdB bs = true) (hva : fdB ns = true) (hw : hvB who = true) (hn : inB n 0 1000000 = true) :
    Calls Tryz.prog 41 #[.agg #[.string who.1,.string who.2],.int .i64 n,.slice A bs.length cap,.slice T ns.length capT] w fun e w' => ∃ R cR,e = .returned (.slice R (tcOf who n bs ns).length cR) ∧ OwnE 5 encAct 45 w' w.heap.size R cR (tcOf who n bs ns) ∧ Below w.heap.size w w':=by
 obtain ⟨hn0,hn1⟩:=inB_of hn;obtain ⟨⟨_,hz1⟩,_,hz2⟩:=hv_sizes hw;have hm1 : who.1.size ≤ maxLen:=by unfold maxLen; omega
 have hm2 : who.2.size ≤ maxLen:=by unfold maxLen; omega
 have hb8:=fd_len hvb;have hn8:=fd_len hva;have HVB:=Lib.hid hvb;have HVA:=Lib.hid hva;have HW:=Lib.hid hw;have HI:=Lib.hid hn;clear hvb hva hw hn hz1 hz2;have cW0 : ((w.alloc (.cells #[.string who.1,.string who.2] 29)).alloc (.cells #[] 45)).cell? ⟨w.heap.size,0,none⟩ = some (.string who.1):=by rw [World.cell?_alloc_past _ _ _ (by simp),World.cell?_alloc_at _ _ _ _ rfl]; rfl
 have cW1 : ((w.alloc (.cells #[.string who.1,.string who.2] 29)).alloc (.cells #[] 45)).cell? ⟨w.heap.size,1,none⟩ = some (.string who.2):=by rw [World.cell?_alloc_past _ _ _ (by simp),World.cell?_alloc_at _ _ _ _ rfl]; rfl
 have zw : (w.alloc (.cells #[.string who.1,.string who.2] 29)).heap.size = w.heap.size + 1:=by simp
 have o9 : OwnE 5 encAct 45 ((w.alloc (.cells #[.string who.1,.string who.2] 29)).alloc (.cells #[] 45)) (w.heap.size + 1) (some ⟨w.heap.size + 1,0,none⟩) 0 ([] : List ElAct):=by have:=Own.lit (w.alloc (.cells #[.string who.1,.string who.2] 29)) 45 5 0 #[] (cE 5 encAct ([] : List ElAct)) (Nat.zero_le _) rfl; rw [zw] at this; exact this
 have kA : Below w.heap.size w ((w.alloc (.cells #[.string who.1,.string who.2] 29)).alloc (.cells #[] 45)):=((Below.refl _ _).alloc (Nat.le_refl _) _).alloc (by simp) _;have zA : w.heap.size + 1 < ((w.alloc (.cells #[.string who.1,.string who.2] 29)).alloc (.cells #[] 45)).heap.size:=by simp
 clear zw;go_enter Tryz.func41,Tryz.ntmps41
 go_wp2_with fail
 generalize ((w.alloc (.cells #[.string who.1,.string who.2] 29)).alloc (.cells #[] 45)) = wA at *
 refine (specHandleValid_b who.1 who.2 wA hm1 hm2).mono ?_;rintro e w1 ⟨rfl,b1⟩;rw [show hvB (who.1,who.2) = true from HW.out];have k1:=kA.trans (b1.mono kA.size)
 go_wp2_with fail
 refine (l1In_any n 0 1000000 w1).mono ?_;rintro e w2 ⟨rfl,rfl⟩;rw [HI.out]
 go_wp2_with fail
 refine (specFeedValid_any A cap B bs w1 (h.below (k1.mono hB)) (Nat.le_trans hB k1.size) (by omega) (fd_sz HVB.out)).mono ?_;rintro e w2 ⟨rfl,b2⟩;rw [HVB.out];have k2:=k1.trans (b2.mono k1.size)
 go_wp2_with fail
 refine (specFeedValid_any T capT B ns w2 (ht.below (k2.mono hB)) (Nat.le_trans hB k2.size) (by omega) (fd_sz HVA.out)).mono ?_;rintro e w3 ⟨rfl,b3⟩;rw [HVA.out];have k3:=k2.trans (b3.mono k2.size);have b13:=b1.trans ((b2.trans (b3.mono b2.size)).mono b1.size);have o93:=Own.below o9 b13;have cV0:=(b13.cell (p:=⟨w.heap.size,0,none⟩) (by show w.heap.size < _; omega)).trans cW0;have cV1:=(b13.cell (p:=⟨w.heap.size,1,none⟩) (by show w.heap.size < _; omega)).trans cW1;have z3 : w.heap.size + 1 < w3.heap.size:=Nat.lt_of_lt_of_le zA b13.size;have z3b:=k3.size;clear cW0 cW1 b1 b2 b3 b13 k1 k2 zA o9 kA hm1 hm2;have zw : (w3.alloc (.cells #[] 3)).heap.size = w3.heap.size + 1:=by simp
 have S0 : TsS w3 ((w3.alloc (.cells #[] 3)).alloc (.cells #[] 9)) (some ⟨w3.heap.size,0,none⟩) 0 (some ⟨w3.heap.size + 1,0,none⟩) 0 []:=⟨Own.below (Own.lit w3 3 1 0 #[] _ (Nat.zero_le _) rfl) ((Below.refl _ _).alloc (Nat.le_refl _) _),by have:=Own.lit (w3.alloc (.cells #[] 3)) 9 1 0 #[] (fun j => .string (gt ([] : List (Int × ByteArray)) j).2) (Nat.zero_le _) rfl; rw [zw] at this; exact Own.more this (by omega),fun b hb e => by simp [blk] at hb e; omega,((Below.refl _ _).alloc (Nat.le_refl _) _).alloc (by simp) _⟩;clear zw;have k4 : Below w.heap.size w ((w3.alloc (.cells #[] 3)).alloc (.cells #[] 9)):=k3.trans (S0.bel.mono z3b)
 go_wp2_with fail
 generalize ((w3.alloc (.cells #[] 3)).alloc (.cells #[] 9)) = w4 at *
 refine (specNewItems_any A cap T capT B bs ns w4 (h.below (k4.mono hB)) (ht.below (k4.mono hB)) (Nat.le_trans hB k4.size) HVB.out HVA.out).mono ?_;rintro e x1 ⟨Q1,d1,rfl,oQ1,c1⟩;have S1a:=S0.below c1;have K1a:=k4.trans (c1.mono k4.size);have D1K : Dis Q1 (some ⟨w3.heap.size,0,none⟩):=Dis.fresh (fun b hb => (Own.lt oQ1 hb).1) (fun b hb => (Own.lt S0.hK hb).2);have D1S : Dis Q1 (some ⟨w3.heap.size + 1,0,none⟩):=Dis.fresh (fun b hb => (Own.lt oQ1 hb).1) (fun b hb => (Own.lt S0.hS hb).2);have oQ1a:=Own.more (base':=w3.heap.size) oQ1 S0.bel.size;have G1:=nwOf_len bs ns;have hq1 : ∃ q,q = nwOf bs ns:=⟨_,rfl⟩;obtain ⟨q1,hq1⟩:=hq1;rw [← hq1] at oQ1a G1 ⊢;have HQ1:=Lib.hid hq1;clear oQ1 c1 S0 k4 hq1
 go_wp2_with fail
 go_loopw [10,11,13] (fun u v i wr => ∃ (k : Nat) (RK : Option Addr) (cK : Nat) (RS : Option Addr) (cS : Nat) (ks : List (Int × ByteArray)),k ≤ q1.length ∧ u = .slice RK ks.length cK ∧ v = .slice RS ks.length cS ∧ i = .int .i64 k ∧ Hid (ks = [] ++ kk 0 (q1.take k)) ∧ ks.length ≤ 0 + k ∧ TsS w3 wr RK cK RS cS ks ∧ OwnE 4 encItem 69 wr w3.heap.size Q1 d1 q1 ∧ Dis Q1 RK ∧ Dis Q1 RS) (fun _ _ i _ => q1.length - (intOf i).toNat)
 case atStart => exact ⟨0,_,0,_,0,[],Nat.zero_le _,rfl,rfl,rfl,Lib.hid rfl,Nat.zero_le _,S1a,oQ1a,D1K,D1S⟩
 case round =>
  clear S1a K1a oQ1a D1K D1S;obtain ⟨k,RK,cK,RS,cS,ks,hk,rfl,rfl,rfl,hcur,hck,S,oQ,dK,dS⟩:=hrel;have z3r:=S.bel.size;by_cases hklt : k < q1.length
  ·have HN:=Lib.hid (kk_step (pre:=[]) (c:=0) hklt)
   obtain ⟨b,rfl⟩ : ∃ b,Q1 = some ⟨b,0,none⟩:=by
    rcases Own.shape oQ with ⟨_,h0,_⟩ | ⟨b,h1,_⟩
    ·omega
    ·exact ⟨b,h1⟩
   go_wp2_with (first | (at_builtin; refine wpList_app2 rfl (.tmp 50) (.tmp 51) _ rfl w3.heap.size 3 _ 1 8 Tryz.underlying112 info_Int0 rfl (by omega) RK (some ⟨wr.heap.size,0,none⟩) ks.length cK 1 1 (wr.heap.size + 1) (fun j => .int .i64 (gt ks j).1) (encI 0) rfl rfl (Own.below S.hK ((Below.refl _ _).alloc (Nat.le_refl _) _)) (rd_elem _ _ _ _ (fun j hj => by rcases (by omega : j = 0) with rfl; rfl)) (fun _ _ => rfl) (by simp only [maxLen]; omega) (by omega) (by first | omega | (simp; done) | (simp; omega)) (by omega) ?_; intro RK1 cK1 w5 o5 g5 p5; have hS5:=S.mid g5; have oQ5:=TsS.mid2 oQ dK g5; have z35 : w3.heap.size ≤ w5.heap.size:=Nat.le_trans (S.bel.alloc S.bel.size _).size g5.size; have c0 : w5.cell? ⟨b,k * 4,none⟩ = some (Value.string (gt q1 k).1):=(by have:=Own.cell oQ5 rfl (j:=k * 4 + 0) (by omega); rw [cE_at encItem q1 k (by omega)] at this; exact this);have c1 : w5.cell? ⟨b,k * 4 + 1,none⟩ = some (Value.string (gt q1 k).2.1):=(by have:=Own.cell oQ5 rfl (j:=k * 4 + 1) (by omega); rw [cE_at encItem q1 k (by omega)] at this; exact this);have c2 : w5.cell? ⟨b,k * 4 + 2,none⟩ = some (Value.string (gt q1 k).2.2.1):=(by have:=Own.cell oQ5 rfl (j:=k * 4 + 2) (by omega); rw [cE_at encItem q1 k (by omega)] at this; exact this);have c3 : w5.cell? ⟨b,k * 4 + 3,none⟩ = some (Value.int .i64 (gt q1 k).2.2.2):=(by have:=Own.cell oQ5 rfl (j:=k * 4 + 3) (by omega); rw [cE_at encItem q1 k (by omega)] at this; exact this)) | (at_builtin; refine wpList_app2 rfl (.tmp 53) (.tmp 59) _ rfl w3.heap.size 9 _ 1 16 Tryz.underlying51 info_String rfl (by omega) RS (some ⟨w5.heap.size,0,none⟩) ks.length cS 1 1 (w5.heap.size + 1) (fun j => .string (gt ks j).2) (encStr (gt q1 k).1) rfl rfl (Own.below hS5 ((Below.refl _ _).alloc (Nat.le_refl _) _)) (rd_elem _ _ _ _ (fun j hj => by rcases (by omega : j = 0) with rfl; rfl)) (fun _ _ => rfl) (by simp only [maxLen]; omega) (by omega) (by first | omega | (simp; done) | (simp; omega)) (by omega) ?_; intro RS1 cS1 w6 o6 g6 p6))
   go_roundw
   case rel =>
    have hO:=TsS.other oQ dK dS g5 p5 g6 p6;exact ⟨k + 1,RK1,cK1,RS1,cS1,ks ++ [(0,(gt q1 k).1)],by omega,by rw [List.length_append]; rfl,by rw [List.length_append]; rfl,by go_num,Lib.hid (by rw [HN.out,← hcur.out]),by rw [List.length_append]; simp; omega,TsS.add (x:=(0,(gt q1 k).1)) S g5 p5 o5 g6 p6 o6,hO.1,hO.2.1,hO.2.2⟩
   case measure => simp [intOf]; omega
  ·obtain rfl : k = q1.length:=by omega
   have hks1 : Hid (ks = kk 0 q1):=Lib.hid (by have:=hcur.out; rw [List.take_length] at this; exact this);clear hcur oQ dK dS;have K:=k3.trans (S.bel.mono z3b)
   go_wp2_with fail
   refine (specChangedItems_any A cap T capT B bs ns wr (h.below (K.mono hB)) (ht.below (K.mono hB)) (Nat.le_trans hB K.size) HVB.out HVA.out).mono ?_;rintro e x2 ⟨Q2,d2,rfl,oQ2,c2⟩;have S2a:=S.below c2;have K2a:=K.trans (c2.mono K.size);have D2K : Dis Q2 RK:=Dis.fresh (fun b hb => (Own.lt oQ2 hb).1) (fun b hb => (Own.lt S.hK hb).2);have D2S : Dis Q2 RS:=Dis.fresh (fun b hb => (Own.lt oQ2 hb).1) (fun b hb => (Own.lt S.hS hb).2);have oQ2a:=Own.more (base':=w3.heap.size) oQ2 S.bel.size;have G2:=chOf_len bs ns;have hq2 : ∃ q,q = chOf bs ns:=⟨_,rfl⟩;obtain ⟨q2,hq2⟩:=hq2;rw [← hq2] at oQ2a G2 ⊢;have HQ2:=Lib.hid hq2;clear oQ2 c2 S K hq2
   go_wp2_with fail
   go_loopw [10,11,15] (fun u v i wr => ∃ (k : Nat) (RK : Option Addr) (cK : Nat) (RS : Option Addr) (cS : Nat) (ks : List (Int × ByteArray)),k ≤ q2.length ∧ u = .slice RK ks.length cK ∧ v = .slice RS ks.length cS ∧ i = .int .i64 k ∧ Hid (ks = (kk 0 q1) ++ kk 1 (q2.take k)) ∧ ks.length ≤ 8 + k ∧ TsS w3 wr RK cK RS cS ks ∧ OwnE 4 encItem 69 wr w3.heap.size Q2 d2 q2 ∧ Dis Q2 RK ∧ Dis Q2 RS) (fun _ _ i _ => q2.length - (intOf i).toNat)
   case atStart => exact ⟨0,RK,cK,RS,cS,ks,Nat.zero_le _,rfl,rfl,rfl,Lib.hid (by rw [hks1.out]; simp [kk]),by omega,S2a,oQ2a,D2K,D2S⟩
   case round =>
    clear S2a K2a oQ2a D2K D2S;obtain ⟨k,RK,cK,RS,cS,ks,hk,rfl,rfl,rfl,hcur,hck,S,oQ,dK,dS⟩:=hrel;have z3r:=S.bel.size;by_cases hklt : k < q2.length
    ·have HN:=Lib.hid (kk_step (pre:=(kk 0 q1)) (c:=1) hklt)
     obtain ⟨b,rfl⟩ : ∃ b,Q2 = some ⟨b,0,none⟩:=by
      rcases Own.shape oQ with ⟨_,h0,_⟩ | ⟨b,h1,_⟩
      ·omega
      ·exact ⟨b,h1⟩
     go_wp2_with (first | (at_builtin; refine wpList_app2 rfl (.tmp 70) (.tmp 71) _ rfl w3.heap.size 3 _ 1 8 Tryz.underlying112 info_Int0 rfl (by omega) RK (some ⟨wr.heap.size,0,none⟩) ks.length cK 1 1 (wr.heap.size + 1) (fun j => .int .i64 (gt ks j).1) (encI 1) rfl rfl (Own.below S.hK ((Below.refl _ _).alloc (Nat.le_refl _) _)) (rd_elem _ _ _ _ (fun j hj => by rcases (by omega : j = 0) with rfl; rfl)) (fun _ _ => rfl) (by simp only [maxLen]; omega) (by omega) (by first | omega | (simp; done) | (simp; omega)) (by omega) ?_; intro RK1 cK1 w5 o5 g5 p5; have hS5:=S.mid g5; have oQ5:=TsS.mid2 oQ dK g5; have z35 : w3.heap.size ≤ w5.heap.size:=Nat.le_trans (S.bel.alloc S.bel.size _).size g5.size; have c0 : w5.cell? ⟨b,k * 4,none⟩ = some (Value.string (gt q2 k).1):=(by have:=Own.cell oQ5 rfl (j:=k * 4 + 0) (by omega); rw [cE_at encItem q2 k (by omega)] at this; exact this);have c1 : w5.cell? ⟨b,k * 4 + 1,none⟩ = some (Value.string (gt q2 k).2.1):=(by have:=Own.cell oQ5 rfl (j:=k * 4 + 1) (by omega); rw [cE_at encItem q2 k (by omega)] at this; exact this);have c2 : w5.cell? ⟨b,k * 4 + 2,none⟩ = some (Value.string (gt q2 k).2.2.1):=(by have:=Own.cell oQ5 rfl (j:=k * 4 + 2) (by omega); rw [cE_at encItem q2 k (by omega)] at this; exact this);have c3 : w5.cell? ⟨b,k * 4 + 3,none⟩ = some (Value.int .i64 (gt q2 k).2.2.2):=(by have:=Own.cell oQ5 rfl (j:=k * 4 + 3) (by omega); rw [cE_at encItem q2 k (by omega)] at this; exact this)) | (at_builtin; refine wpList_app2 rfl (.tmp 73) (.tmp 79) _ rfl w3.heap.size 9 _ 1 16 Tryz.underlying51 info_String rfl (by omega) RS (some ⟨w5.heap.size,0,none⟩) ks.length cS 1 1 (w5.heap.size + 1) (fun j => .string (gt ks j).2) (encStr (gt q2 k).1) rfl rfl (Own.below hS5 ((Below.refl _ _).alloc (Nat.le_refl _) _)) (rd_elem _ _ _ _ (fun j hj => by rcases (by omega : j = 0) with rfl; rfl)) (fun _ _ => rfl) (by simp only [maxLen]; omega) (by omega) (by first | omega | (simp; done) | (simp; omega)) (by omega) ?_; intro RS1 cS1 w6 o6 g6 p6))
     go_roundw
     case rel =>
      have hO:=TsS.other oQ dK dS g5 p5 g6 p6;exact ⟨k + 1,RK1,cK1,RS1,cS1,ks ++ [(1,(gt q2 k).1)],by omega,by rw [List.length_append]; rfl,by rw [List.length_append]; rfl,by go_num,Lib.hid (by rw [HN.out,← hcur.out]),by rw [List.length_append]; simp; omega,TsS.add (x:=(1,(gt q2 k).1)) S g5 p5 o5 g6 p6 o6,hO.1,hO.2.1,hO.2.2⟩
     case measure => simp [intOf]; omega
    ·obtain rfl : k = q2.length:=by omega
     have hks2 : Hid (ks = (kk 0 q1) ++ kk 1 q2):=Lib.hid (by have:=hcur.out; rw [List.take_length] at this; exact this);clear hcur oQ dK dS;have K:=k3.trans (S.bel.mono z3b)
     go_wp2_with fail
     refine (specGoneKeys_any A cap T capT B bs ns wr (h.below (K.mono hB)) (ht.below (K.mono hB)) (Nat.le_trans hB K.size) HVB.out HVA.out).mono ?_;rintro e x3 ⟨Q3,d3,rfl,oQ3,c3⟩;have S3a:=S.below c3;have K3a:=K.trans (c3.mono K.size);have D3K : Dis Q3 RK:=Dis.fresh (fun b hb => (Own.lt oQ3 hb).1) (fun b hb => (Own.lt S.hK hb).2);have D3S : Dis Q3 RS:=Dis.fresh (fun b hb => (Own.lt oQ3 hb).1) (fun b hb => (Own.lt S.hS hb).2);have oQ3a:=Own.more (base':=w3.heap.size) oQ3 S.bel.size;have G3:=gkOf_len bs ns;have hq3 : ∃ q,q = gkOf bs ns:=⟨_,rfl⟩;obtain ⟨q3,hq3⟩:=hq3;rw [← hq3] at oQ3a G3 ⊢;have HQ3:=Lib.hid hq3;clear oQ3 c3 S K hq3
     go_wp2_with fail
     go_loopw [10,11,17] (fun u v i wr => ∃ (k : Nat) (RK : Option Addr) (cK : Nat) (RS : Option Addr) (cS : Nat) (ks : List (Int × ByteArray)),k ≤ q3.length ∧ u = .slice RK ks.length cK ∧ v = .slice RS ks.length cS ∧ i = .int .i64 k ∧ Hid (ks = (kk 0 q1 ++ kk 1 q2) ++ kg (q3.take k)) ∧ ks.length ≤ 16 + k ∧ TsS w3 wr RK cK RS cS ks ∧ OwnE 1 encStr 9 wr w3.heap.size Q3 d3 q3 ∧ Dis Q3 RK ∧ Dis Q3 RS) (fun _ _ i _ => q3.length - (intOf i).toNat)
     case atStart => exact ⟨0,RK,cK,RS,cS,ks,Nat.zero_le _,rfl,rfl,rfl,Lib.hid (by rw [hks2.out]; simp [kg]),by omega,S3a,oQ3a,D3K,D3S⟩
     case round =>
      clear S3a K3a oQ3a D3K D3S;obtain ⟨k,RK,cK,RS,cS,ks,hk,rfl,rfl,rfl,hcur,hck,S,oQ,dK,dS⟩:=hrel;have z3r:=S.bel.size;by_cases hklt : k < q3.length
      ·have HN:=Lib.hid (kg_step (pre:=(kk 0 q1 ++ kk 1 q2)) hklt)
       obtain ⟨b,rfl⟩ : ∃ b,Q3 = some ⟨b,0,none⟩:=by
        rcases Own.shape oQ with ⟨_,h0,_⟩ | ⟨b,h1,_⟩
        ·omega
        ·exact ⟨b,h1⟩
       go_wp2_with (first | (at_builtin; refine wpList_app2 rfl (.tmp 90) (.tmp 91) _ rfl w3.heap.size 3 _ 1 8 Tryz.underlying112 info_Int0 rfl (by omega) RK (some ⟨wr.heap.size,0,none⟩) ks.length cK 1 1 (wr.heap.size + 1) (fun j => .int .i64 (gt ks j).1) (encI 2) rfl rfl (Own.below S.hK ((Below.refl _ _).alloc (Nat.le_refl _) _)) (rd_elem _ _ _ _ (fun j hj => by rcases (by omega : j = 0) with rfl; rfl)) (fun _ _ => rfl) (by simp only [maxLen]; omega) (by omega) (by first | omega | (simp; done) | (simp; omega)) (by omega) ?_; intro RK1 cK1 w5 o5 g5 p5; have hS5:=S.mid g5; have oQ5:=TsS.mid2 oQ dK g5; have z35 : w3.heap.size ≤ w5.heap.size:=Nat.le_trans (S.bel.alloc S.bel.size _).size g5.size; have c0 : w5.cell? ⟨b,k,none⟩ = some (.string (gt q3 k)):=(by have:=Own.cell oQ5 rfl (j:=k) (by omega); unfold cE at this; rw [Nat.div_one] at this; exact this)) | (at_builtin; refine wpList_app2 rfl (.tmp 93) (.tmp 98) _ rfl w3.heap.size 9 _ 1 16 Tryz.underlying51 info_String rfl (by omega) RS (some ⟨w5.heap.size,0,none⟩) ks.length cS 1 1 (w5.heap.size + 1) (fun j => .string (gt ks j).2) (encStr (gt q3 k)) rfl rfl (Own.below hS5 ((Below.refl _ _).alloc (Nat.le_refl _) _)) (rd_elem _ _ _ _ (fun j hj => by rcases (by omega : j = 0) with rfl; rfl)) (fun _ _ => rfl) (by simp only [maxLen]; omega) (by omega) (by first | omega | (simp; done) | (simp; omega)) (by omega) ?_; intro RS1 cS1 w6 o6 g6 p6))
       go_roundw
       case rel =>
        have hO:=TsS.other oQ dK dS g5 p5 g6 p6;exact ⟨k + 1,RK1,cK1,RS1,cS1,ks ++ [(2,(gt q3 k))],by omega,by rw [List.length_append]; rfl,by rw [List.length_append]; rfl,by go_num,Lib.hid (by rw [HN.out,← hcur.out]),by rw [List.length_append]; simp; omega,TsS.add (x:=(2,(gt q3 k))) S g5 p5 o5 g6 p6 o6,hO.1,hO.2.1,hO.2.2⟩
       case measure => simp [intOf]; omega
      ·obtain rfl : k = q3.length:=by omega
       have hks3 : Hid (ks = (kk 0 q1 ++ kk 1 q2) ++ kg q3):=Lib.hid (by have:=hcur.out; rw [List.take_length] at this; exact this);clear hcur oQ dK dS;have K:=k3.trans (S.bel.mono z3b)
       go_wp2_with fail
       have hkl : ks.length ≤ 24:=by omega
       have o9r:=Own.below o93 S.bel;have D1 : Dis RK (some ⟨w.heap.size + 1,0,none⟩):=Dis.fresh (m:=w3.heap.size) (fun b hb => (Own.lt S.hK hb).1) (fun b hb => by simp [blk] at hb; omega);have D2 : Dis RS (some ⟨w.heap.size + 1,0,none⟩):=Dis.fresh (m:=w3.heap.size) (fun b hb => (Own.lt S.hS hb).1) (fun b hb => by simp [blk] at hb; omega);have B3 : Below (w.heap.size + 1) w3 wr:=S.bel.mono (by omega);have k3w : Below w.heap.size w w3:=k3;have SK:=S.hK;have SS:=S.hS;clear S K o93
       go_loopw [9,18] (fun u i wr => ∃ (k : Nat) (R : Option Addr) (c : Nat) (cur : List ElAct),k ≤ ks.length ∧ u = .slice R cur.length c ∧ i = .int .i64 k ∧ Hid (cur = acts who n (ks.take k)) ∧ cur.length ≤ k ∧ OwnE 5 encAct 45 wr (w.heap.size + 1) R c cur ∧ Own wr w3.heap.size 3 1 RK ks.length cK (fun j => .int .i64 (gt ks j).1) ∧ Own wr w3.heap.size 9 1 RS ks.length cS (fun j => .string (gt ks j).2) ∧ Dis RK R ∧ Dis RS R ∧ Below (w.heap.size + 1) w3 wr) (fun _ i _ => ks.length - (intOf i).toNat)
       case atStart => exact ⟨0,_,0,[],Nat.zero_le _,rfl,rfl,Lib.hid rfl,Nat.zero_le _,o9r,SK,SS,D1,D2,B3⟩
       case round =>
        clear o9r SK SS D1 D2 B3;obtain ⟨k,R,c,cur,hk,rfl,rfl,hcur,hck,hown,SK,SS,D1,D2,B3⟩:=hrel;have z3r:=B3.size;by_cases hklt : k < ks.length
        ·obtain ⟨b1,hb1⟩ : ∃ b,RK = some ⟨b,0,none⟩:=by
            rcases Own.shape SK with ⟨_,h0,_⟩ | ⟨b,h1,_⟩
            ·omega
            ·exact ⟨b,h1⟩
         obtain ⟨b2,hb2⟩ : ∃ b,RS = some ⟨b,0,none⟩:=by
          rcases Own.shape SS with ⟨_,h0,_⟩ | ⟨b,h1,_⟩
          ·omega
          ·exact ⟨b,h1⟩
         have c1 : wr.cell? ⟨b1,k,none⟩ = some (.int .i64 (gt ks k).1):=Own.cell SK hb1 (j:=k) (by omega);have c2 : wr.cell? ⟨b2,k,none⟩ = some (.string (gt ks k).2):=Own.cell SS hb2 (j:=k) (by omega);have e0 : wr.cell? ⟨w.heap.size,0,none⟩ = some (.string who.1):=(B3.cell (by show w.heap.size < _; omega)).trans cV0;have e1 : wr.cell? ⟨w.heap.size,1,none⟩ = some (.string who.2):=(B3.cell (by show w.heap.size < _; omega)).trans cV1;have HN:=Lib.hid (acts_take (who:=who) (n:=n) hklt);have hwrap : IntKind.i64.wrap (n + (k : Int)) = n + (k : Int):=IntWalk.i64_in _ (by omega);subst hb1 hb2
         go_wp2_with fail
         go_region_held3 (fun w' => w'.cell? ⟨b1,k,none⟩ = some (.int .i64 (gt ks k).1) ∧ w'.cell? ⟨b2,k,none⟩ = some (.string (gt ks k).2) ∧ w'.cell? ⟨w.heap.size,0,none⟩ = some (.string who.1) ∧ w'.cell? ⟨w.heap.size,1,none⟩ = some (.string who.2)) (first | exact ⟨c1,c2,e0,e1⟩ | exact ⟨n1,n2,n3,n4⟩ | go_keep) (first
          | (go_loud (refine step_app2 (by rfl) (.tmp 106) (.tmp 120) _ (by rfl) (w.heap.size + 1) 45 _ 5 64 Tryz.underlying73 info_Act rfl (by omega) R (some ⟨wr.heap.size,0,none⟩) cur.length c 1 1 (wr.heap.size + 1) (cE 5 encAct cur) (encAct ((gt ks k).1,n + (k : Int),who.1,who.2,(gt ks k).2)) (by simp [go_sem]) (by simp [go_sem]) (Own.below hown (((Below.refl _ _).alloc (Nat.le_refl _) _).drew)) (by first | exact rd_elem _ _ _ _ (fun j hj => by rcases (by omega : j = 0 ∨ j = 1 ∨ j = 2 ∨ j = 3 ∨ j = 4) with rfl | rfl | rfl | rfl | rfl <;> rfl) | (rw [hwrap]; exact rd_elem _ _ _ _ (fun j hj => by rcases (by omega : j = 0 ∨ j = 1 ∨ j = 2 ∨ j = 3 ∨ j = 4) with rfl | rfl | rfl | rfl | rfl <;> rfl))) (fun _ _ => encAct_one _ _) (by simp only [maxLen]; omega) (by omega) (by first | omega | (simp; omega)) (by omega) ?_; intro R1 c1 w5 o5 g5 p5; have SK5:=Own.kept (Own.below SK (((Below.refl _ _).alloc (Nat.le_refl _) _).drew)) g5 D1.kept; have SS5:=Own.kept (Own.below SS (((Below.refl _ _).alloc (Nat.le_refl _) _).drew)) g5 D2.kept; have B35 : Below (w.heap.size + 1) w3 w5:=((B3.alloc (by omega) _).drew).trans (grown_below g5 (fun b hb => (Own.lt hown hb).1) (by first | omega | (simp; omega)));have n1:=Own.cell SK5 rfl (j:=k) (by omega);have n2:=Own.cell SS5 rfl (j:=k) (by omega);have n3:=(B35.cell (p:=⟨w.heap.size,0,none⟩) (by show w.heap.size < w.heap.size + 1; omega)).trans cV0; have n4:=(B35.cell (p:=⟨w.heap.size,1,none⟩) (by show w.heap.size < w.heap.size + 1; omega)).trans cV1)))
         go_wp2_with fail
         go_roundw
         case rel => exact ⟨k + 1,R1,c1,cur ++ [((gt ks k).1,n + (k : Int),who.1,who.2,(gt ks k).2)],by omega,by rw [List.length_append]; rfl,by go_num,Lib.hid (by rw [HN.out,← hcur.out]),by rw [List.length_append]; simp; omega,OwnE.snoc (by omega) o5,SK5,SS5,D1.grow (fun b hb => Nat.lt_of_lt_of_le (Own.lt SK hb).2 (by simp)) p5,D2.grow (fun b hb => Nat.lt_of_lt_of_le (Own.lt SS hb).2 (by simp)) p5,B35⟩
         case measure => simp [intOf]; omega
        ·obtain rfl : k = ks.length:=by omega
         have hfin : cur = tcOf who n bs ns:=by have:=hcur.out; rw [List.take_length] at this; rw [this,hks3.out,HQ1.out,HQ2.out,HQ3.out]; rfl
         clear hcur
         go_wp2_with fail
         go_ret;subst hfin;exact ⟨R,c,rfl,Own.more hown (by omega),k3w.trans (B3.mono (by omega))⟩
theorem kw_tab (k : Nat) (h : k < 6) : (#[Value.string { data:=#[99,114,101,97,116,101] },Value.string { data:=#[117,112,100,97,116,101] },Value.string { data:=#[100,101,108,101,116,101] },Value.string { data:=#[102,111,108,108,111,119] },Value.string { data:=#[97,99,99,101,112,116] },Value.string { data:=#[117,110,100,111] }] : Array Value)[k]? = some (.string (kwOf k)):=by
 match k,h with
 | 0,_ => rfl
 | 1,_ => rfl
 | 2,_ => rfl
 | 3,_ => rfl
 | 4,_ => rfl
 | 5,_ => rfl
theorem l10Words_any (w : World) : Calls Tryz.prog 92 #[] w fun e w' => e = .returned (.slice (some ⟨w.heap.size,0,none⟩) 6 6) ∧ w' = w.alloc (.cells #[.string { data:=#[99,114,101,97,116,101] },.string { data:=#[117,112,100,97,116,101] },.string { data:=#[100,101,108,101,116,101] },.string { data:=#[102,111,108,108,111,119] },.string { data:=#[97,99,99,101,112,116] },.string { data:=#[117,110,100,111] }] 9):=by
 go_enter Tryz.func92,Tryz.ntmps92
 go_wp2
 go_ret;exact ⟨rfl,rfl⟩
def ptrW (x : ByteArray) : Spec:=fun v w => ∃ b i,v = .pointer (some ⟨b,i,none⟩) ∧ b < w.heap.size ∧ w.cell? ⟨b,i,none⟩ = some (.string x)
theorem ptrW_stb (x : ByteArray) : StbB (ptrW x):=fun _ _ _ h ⟨b,i,h1,h2,h3⟩ => ⟨b,i,h1,Nat.lt_of_lt_of_le h2 h.size,(h.cell (p:=⟨b,i,none⟩) h2).trans h3⟩
set_option maxHeartbeats 1600000 in
theorem specActivityText_any (kind : Nat) (num : Int) (who : ElHandle) (what : ByteArray) (w : World) (hk : kind < 6) (hac : acB kind num who what = true) : Calls Tryz.prog 42 #[.agg #[.int .i64 kind,.int .i64 num,.string who.1,.string who.2,.string what]] w fun e w' => e = .returned (.string (acOf kind num who what)) ∧ Below w.heap.size w w':=by
 obtain ⟨⟨hk0,hk5⟩,⟨hn0,hn1⟩,hv,hwd⟩:=acB_of hac;obtain ⟨⟨_,z0⟩,_,z1⟩:=hv_sizes hv;have z2:=(Word.of hwd).2.1;have hw0 : who.1.size ≤ maxLen:=by simp only [maxLen]; omega
 have hw1 : who.2.size ≤ maxLen:=by simp only [maxLen]; omega
 have hwt : what.size ≤ maxLen:=by simp only [maxLen]; omega
 have hbA : Below w.heap.size w (w.alloc (.cells #[.int .i64 kind,.int .i64 num,.string who.1,.string who.2,.string what] 45)):=(Below.refl _ _).alloc (Nat.le_refl _) _;have hzA : w.heap.size < (w.alloc (.cells #[.int .i64 kind,.int .i64 num,.string who.1,.string who.2,.string what] 45)).heap.size:=by simp
 have q0 : (w.alloc (.cells #[.int .i64 kind,.int .i64 num,.string who.1,.string who.2,.string what] 45)).cell? ⟨w.heap.size,0,none⟩ = some (Value.int .i64 kind):=by rw [World.cell?_alloc_at _ _ _ _ rfl]; rfl
 have q1 : (w.alloc (.cells #[.int .i64 kind,.int .i64 num,.string who.1,.string who.2,.string what] 45)).cell? ⟨w.heap.size,1,none⟩ = some (Value.int .i64 num):=by rw [World.cell?_alloc_at _ _ _ _ rfl]; rfl
 have q2 : (w.alloc (.cells #[.int .i64 kind,.int .i64 num,.string who.1,.string who.2,.string what] 45)).cell? ⟨w.heap.size,2,none⟩ = some (Value.string who.1):=by rw [World.cell?_alloc_at _ _ _ _ rfl]; rfl
 have q3 : (w.alloc (.cells #[.int .i64 kind,.int .i64 num,.string who.1,.string who.2,.string what] 45)).cell? ⟨w.heap.size,3,none⟩ = some (Value.string who.2):=by rw [World.cell?_alloc_at _ _ _ _ rfl]; rfl
 have q4 : (w.alloc (.cells #[.int .i64 kind,.int .i64 num,.string who.1,.string who.2,.string what] 45)).cell? ⟨w.heap.size,4,none⟩ = some (Value.string what):=by rw [World.cell?_alloc_at _ _ _ _ rfl]; rfl
 have hcall:=specActivityValid_any kind num who what;have hcall2:=fun W => specHandleText_any who.1 who.2 W hw0 hw1
 rw [show (who.1,who.2) = who from rfl] at hcall2;simp only [hac] at hcall;have HC:=Lib.hid hcall;have HC2:=Lib.hid hcall2;have HM:=Lib.hid (fun W => specMarkText_any num W);have HQ:=Lib.hid (show acOf kind num who what = kwOf kind ++ { data:=#[32] } ++ mkOf num ++ { data:=#[32] } ++ htOf who ++ { data:=#[32] } ++ what from rfl);have y0:=kwOf_size kind;have y1:=mkOf_size num;have y2:=htOf_size who;clear hcall hcall2 hac hv hwd;go_enter Tryz.func42,Tryz.ntmps42
 go_wp2_with fail
 generalize (w.alloc (.cells #[.int .i64 kind,.int .i64 num,.string who.1,.string who.2,.string what] 45)) = wA at *
 refine (HC.out wA hw0 hw1 hwt).mono ?_;rintro e w1 ⟨rfl,b1⟩;have k1:=hbA.trans (b1.mono hbA.size);have zz1 : w.heap.size < w1.heap.size:=by have:=b1.size; omega
 have r0:=(b1.cell (p:=⟨w.heap.size,0,none⟩) (by show w.heap.size < _; omega)).trans q0;have r1:=(b1.cell (p:=⟨w.heap.size,1,none⟩) (by show w.heap.size < _; omega)).trans q1;have r2:=(b1.cell (p:=⟨w.heap.size,2,none⟩) (by show w.heap.size < _; omega)).trans q2;have r3:=(b1.cell (p:=⟨w.heap.size,3,none⟩) (by show w.heap.size < _; omega)).trans q3;have r4:=(b1.cell (p:=⟨w.heap.size,4,none⟩) (by show w.heap.size < _; omega)).trans q4;generalize mkOf num = mk at *
 generalize htOf who = ht at *
 have hkw : ∃ kw,kwOf kind = kw:=⟨_,rfl⟩;obtain ⟨kw,hkw⟩:=hkw;rw [hkw] at HQ y0;have HTB:=Lib.hid ((kw_tab kind hk).trans (by rw [hkw]));clear hkw
 go_wp2_with fail
 refine wp_region_makes 19 [(tabB 0 6 #[.string { data:=#[99,114,101,97,116,101] },.string { data:=#[117,112,100,97,116,101] },.string { data:=#[100,101,108,101,116,101] },.string { data:=#[102,111,108,108,111,119] },.string { data:=#[97,99,99,101,112,116] },.string { data:=#[117,110,100,111] }]),(isS (.pointer (some ⟨w.heap.size,0,none⟩))),(isS (.int .i64 kind)),ptrW kw,(isS (.string kw)),(isS (.string (kw ++ { data:=#[32] }))),(isS (.pointer (some ⟨w.heap.size,1,none⟩))),(isS (.int .i64 num)),(isS (.string mk)),(isS (.string (kw ++ { data:=#[32] } ++ mk))),(isS (.string (kw ++ { data:=#[32] } ++ mk ++ { data:=#[32] }))),(isS (.pointer (some ⟨w.heap.size,2,none⟩))),(isS (.agg #[.string who.1,.string who.2])),(isS (.string ht)),(isS (.string (kw ++ { data:=#[32] } ++ mk ++ { data:=#[32] } ++ ht))),(isS (.string (kw ++ { data:=#[32] } ++ mk ++ { data:=#[32] } ++ ht ++ { data:=#[32] }))),(isS (.pointer (some ⟨w.heap.size,4,none⟩))),(isS (.string what)),(isS (.string (kw ++ { data:=#[32] } ++ mk ++ { data:=#[32] } ++ ht ++ { data:=#[32] } ++ what)))] [0,0,0,0,0,0,0,0,0,0,0,0,0,0,0,0,0,0,0] (by kernel_rfl) (by kernel_rfl) (by rfl) (by rfl) (by rfl) ?_ ?_ ?_
 ·repeat (first | exact stbB_nil | refine stbB_cons (by first | exact isS_stb _ | exact tabB_stb _ _ _ | exact ptrW_stb _) ?_)
 ·simp only [List.take_succ_cons,List.take_zero]
  refine looseSteps_cons (fun k a' w' hk0' hk1' hR hG hkp hd => ?_) ?_
  ·have hR0 : Below w1.drew.heap.size w1.drew w':=hR
   have hRb : Below w1.heap.size w1 w':=⟨hR0.os,hR0.tape,hR0.output,hR0.size,hR0.block⟩;unfold looseRun;go_simp;refine ⟨rfl,(l10Words_any _).mono ?_⟩;rintro e w2 ⟨rfl,rfl⟩;exact ⟨_,rfl,below_new _ _,trivial,tabB_new (Nat.zero_le _) _ _⟩
  refine looseSteps_cons (fun k a' w' hk0' hk1' hR hG hkp hd => ?_) ?_
  ·have hR0 : Below w1.drew.heap.size w1.drew w':=hR
   have hRb : Below w1.heap.size w1 w':=⟨hR0.os,hR0.tape,hR0.output,hR0.size,hR0.block⟩;have k1' : a'.tmps.getD 1 undef = .pointer (some ⟨w.heap.size,0,none⟩):=hkp 1 (by rfl);unfold looseRun;go_simp;exact ⟨Below.refl _ _,trivial,rfl⟩
  refine looseSteps_cons (fun k a' w' hk0' hk1' hR hG hkp hd => ?_) ?_
  ·have hR0 : Below w1.drew.heap.size w1.drew w':=hR
   have hRb : Below w1.heap.size w1 w':=⟨hR0.os,hR0.tape,hR0.output,hR0.size,hR0.block⟩;have e1:=hd.1 rfl;have e1' : a'.tmps.getD 7 undef = _:=e1;have e1q:=e1';rw [Array.getD_eq_getD_getElem?] at e1q;have rr:=(hRb.cell (p:=⟨w.heap.size,0,none⟩) zz1).trans r0;unfold looseRun;go_simp;exact ⟨Below.refl _ _,trivial,rfl⟩
  refine looseSteps_cons (fun k a' w' hk0' hk1' hR hG hkp hd => ?_) ?_
  ·have hR0 : Below w1.drew.heap.size w1.drew w':=hR
   have hRb : Below w1.heap.size w1 w':=⟨hR0.os,hR0.tape,hR0.output,hR0.size,hR0.block⟩;obtain ⟨b,e6,_,hb2,hbc⟩:=hd.1 rfl;have e8:=hd.2.1 rfl;have e6' : a'.tmps.getD 6 undef = _:=e6;have e6q:=e6';rw [Array.getD_eq_getD_getElem?] at e6q;have e8' : a'.tmps.getD 8 undef = _:=e8;have e8q:=e8';rw [Array.getD_eq_getD_getElem?] at e8q;have hx:=(hbc kind).trans HTB.out;have hk6 : (kind : Int) < 6:=by omega
   unfold looseRun;go_simp;exact ⟨Below.refl _ _,trivial,b,kind,rfl,hb2,hx⟩
  refine looseSteps_cons (fun k a' w' hk0' hk1' hR hG hkp hd => ?_) ?_
  ·have hR0 : Below w1.drew.heap.size w1.drew w':=hR
   have hRb : Below w1.heap.size w1 w':=⟨hR0.os,hR0.tape,hR0.output,hR0.size,hR0.block⟩;obtain ⟨b,i,e1,hb2,hc⟩:=hd.1 rfl;have e1' : a'.tmps.getD 9 undef = _:=e1;have e1q:=e1';rw [Array.getD_eq_getD_getElem?] at e1q;unfold looseRun;go_simp;exact ⟨Below.refl _ _,trivial,rfl⟩
  refine looseSteps_cons (fun k a' w' hk0' hk1' hR hG hkp hd => ?_) ?_
  ·have hR0 : Below w1.drew.heap.size w1.drew w':=hR
   have hRb : Below w1.heap.size w1 w':=⟨hR0.os,hR0.tape,hR0.output,hR0.size,hR0.block⟩;have e1:=hd.1 rfl;have e1' : a'.tmps.getD 10 undef = _:=e1;have e1q:=e1';rw [Array.getD_eq_getD_getElem?] at e1q;unfold looseRun;go_simp;rw [if_neg (by omega)];exact ⟨Below.refl _ _,trivial,rfl⟩
  refine looseSteps_cons (fun k a' w' hk0' hk1' hR hG hkp hd => ?_) ?_
  ·have hR0 : Below w1.drew.heap.size w1.drew w':=hR
   have hRb : Below w1.heap.size w1 w':=⟨hR0.os,hR0.tape,hR0.output,hR0.size,hR0.block⟩;have k1' : a'.tmps.getD 1 undef = .pointer (some ⟨w.heap.size,0,none⟩):=hkp 1 (by rfl);unfold looseRun;go_simp;exact ⟨Below.refl _ _,trivial,rfl⟩
  refine looseSteps_cons (fun k a' w' hk0' hk1' hR hG hkp hd => ?_) ?_
  ·have hR0 : Below w1.drew.heap.size w1.drew w':=hR
   have hRb : Below w1.heap.size w1 w':=⟨hR0.os,hR0.tape,hR0.output,hR0.size,hR0.block⟩;have e1:=hd.1 rfl;have e1' : a'.tmps.getD 12 undef = _:=e1;have e1q:=e1';rw [Array.getD_eq_getD_getElem?] at e1q;have rr:=(hRb.cell (p:=⟨w.heap.size,1,none⟩) zz1).trans r1;unfold looseRun;go_simp;exact ⟨Below.refl _ _,trivial,rfl⟩
  refine looseSteps_cons (fun k a' w' hk0' hk1' hR hG hkp hd => ?_) ?_
  ·have hR0 : Below w1.drew.heap.size w1.drew w':=hR
   have hRb : Below w1.heap.size w1 w':=⟨hR0.os,hR0.tape,hR0.output,hR0.size,hR0.block⟩;have e1:=hd.1 rfl;have e1' : a'.tmps.getD 13 undef = _:=e1;have e1q:=e1';rw [Array.getD_eq_getD_getElem?] at e1q;unfold looseRun;go_simp;refine ⟨rfl,(HM.out _).mono ?_⟩;rintro e w2 ⟨rfl,rfl⟩;exact ⟨_,rfl,Below.refl _ _,trivial,rfl⟩
  refine looseSteps_cons (fun k a' w' hk0' hk1' hR hG hkp hd => ?_) ?_
  ·have hR0 : Below w1.drew.heap.size w1.drew w':=hR
   have hRb : Below w1.heap.size w1 w':=⟨hR0.os,hR0.tape,hR0.output,hR0.size,hR0.block⟩;have e1:=hd.1 rfl;have e1' : a'.tmps.getD 11 undef = _:=e1;have e1q:=e1';rw [Array.getD_eq_getD_getElem?] at e1q;have e2:=hd.2.1 rfl;have e2' : a'.tmps.getD 14 undef = _:=e2;have e2q:=e2';rw [Array.getD_eq_getD_getElem?] at e2q;unfold looseRun;go_simp;rw [if_neg (by omega)];exact ⟨Below.refl _ _,trivial,rfl⟩
  refine looseSteps_cons (fun k a' w' hk0' hk1' hR hG hkp hd => ?_) ?_
  ·have hR0 : Below w1.drew.heap.size w1.drew w':=hR
   have hRb : Below w1.heap.size w1 w':=⟨hR0.os,hR0.tape,hR0.output,hR0.size,hR0.block⟩;have e1:=hd.1 rfl;have e1' : a'.tmps.getD 15 undef = _:=e1;have e1q:=e1';rw [Array.getD_eq_getD_getElem?] at e1q;unfold looseRun;go_simp;rw [if_neg (by omega)];exact ⟨Below.refl _ _,trivial,rfl⟩
  refine looseSteps_cons (fun k a' w' hk0' hk1' hR hG hkp hd => ?_) ?_
  ·have hR0 : Below w1.drew.heap.size w1.drew w':=hR
   have hRb : Below w1.heap.size w1 w':=⟨hR0.os,hR0.tape,hR0.output,hR0.size,hR0.block⟩;have k1' : a'.tmps.getD 1 undef = .pointer (some ⟨w.heap.size,0,none⟩):=hkp 1 (by rfl);unfold looseRun;go_simp;exact ⟨Below.refl _ _,trivial,rfl⟩
  refine looseSteps_cons (fun k a' w' hk0' hk1' hR hG hkp hd => ?_) ?_
  ·have hR0 : Below w1.drew.heap.size w1.drew w':=hR
   have hRb : Below w1.heap.size w1 w':=⟨hR0.os,hR0.tape,hR0.output,hR0.size,hR0.block⟩;have e1:=hd.1 rfl;have e1' : a'.tmps.getD 17 undef = _:=e1;have e1q:=e1';rw [Array.getD_eq_getD_getElem?] at e1q;have rr:=(hRb.cell (p:=⟨w.heap.size,2,none⟩) zz1).trans r2;have rr2:=(hRb.cell (p:=⟨w.heap.size,3,none⟩) zz1).trans r3;unfold looseRun;go_simp;exact ⟨Below.refl _ _,trivial,rfl⟩
  refine looseSteps_cons (fun k a' w' hk0' hk1' hR hG hkp hd => ?_) ?_
  ·have hR0 : Below w1.drew.heap.size w1.drew w':=hR
   have hRb : Below w1.heap.size w1 w':=⟨hR0.os,hR0.tape,hR0.output,hR0.size,hR0.block⟩;have e1:=hd.1 rfl;have e1' : a'.tmps.getD 18 undef = _:=e1;have e1q:=e1';rw [Array.getD_eq_getD_getElem?] at e1q;unfold looseRun;go_simp;refine ⟨rfl,(HC2.out _).mono ?_⟩;rintro e w2 ⟨rfl,hb⟩;exact ⟨_,rfl,hb,trivial,rfl⟩
  refine looseSteps_cons (fun k a' w' hk0' hk1' hR hG hkp hd => ?_) ?_
  ·have hR0 : Below w1.drew.heap.size w1.drew w':=hR
   have hRb : Below w1.heap.size w1 w':=⟨hR0.os,hR0.tape,hR0.output,hR0.size,hR0.block⟩;have e1:=hd.1 rfl;have e1' : a'.tmps.getD 16 undef = _:=e1;have e1q:=e1';rw [Array.getD_eq_getD_getElem?] at e1q;have e2:=hd.2.1 rfl;have e2' : a'.tmps.getD 19 undef = _:=e2;have e2q:=e2';rw [Array.getD_eq_getD_getElem?] at e2q;unfold looseRun;go_simp;rw [if_neg (by omega)];exact ⟨Below.refl _ _,trivial,rfl⟩
  refine looseSteps_cons (fun k a' w' hk0' hk1' hR hG hkp hd => ?_) ?_
  ·have hR0 : Below w1.drew.heap.size w1.drew w':=hR
   have hRb : Below w1.heap.size w1 w':=⟨hR0.os,hR0.tape,hR0.output,hR0.size,hR0.block⟩;have e1:=hd.1 rfl;have e1' : a'.tmps.getD 20 undef = _:=e1;have e1q:=e1';rw [Array.getD_eq_getD_getElem?] at e1q;unfold looseRun;go_simp;rw [if_neg (by omega)];exact ⟨Below.refl _ _,trivial,rfl⟩
  refine looseSteps_cons (fun k a' w' hk0' hk1' hR hG hkp hd => ?_) ?_
  ·have hR0 : Below w1.drew.heap.size w1.drew w':=hR
   have hRb : Below w1.heap.size w1 w':=⟨hR0.os,hR0.tape,hR0.output,hR0.size,hR0.block⟩;have k1' : a'.tmps.getD 1 undef = .pointer (some ⟨w.heap.size,0,none⟩):=hkp 1 (by rfl);unfold looseRun;go_simp;exact ⟨Below.refl _ _,trivial,rfl⟩
  refine looseSteps_cons (fun k a' w' hk0' hk1' hR hG hkp hd => ?_) ?_
  ·have hR0 : Below w1.drew.heap.size w1.drew w':=hR
   have hRb : Below w1.heap.size w1 w':=⟨hR0.os,hR0.tape,hR0.output,hR0.size,hR0.block⟩;have e1:=hd.1 rfl;have e1' : a'.tmps.getD 22 undef = _:=e1;have e1q:=e1';rw [Array.getD_eq_getD_getElem?] at e1q;have rr:=(hRb.cell (p:=⟨w.heap.size,4,none⟩) zz1).trans r4;unfold looseRun;go_simp;exact ⟨Below.refl _ _,trivial,rfl⟩
  refine looseSteps_cons (fun k a' w' hk0' hk1' hR hG hkp hd => ?_) ?_
  ·have hR0 : Below w1.drew.heap.size w1.drew w':=hR
   have hRb : Below w1.heap.size w1 w':=⟨hR0.os,hR0.tape,hR0.output,hR0.size,hR0.block⟩;have e1:=hd.1 rfl;have e1' : a'.tmps.getD 21 undef = _:=e1;have e1q:=e1';rw [Array.getD_eq_getD_getElem?] at e1q;have e2:=hd.2.1 rfl;have e2' : a'.tmps.getD 23 undef = _:=e2;have e2q:=e2';rw [Array.getD_eq_getD_getElem?] at e2q;unfold looseRun;go_simp;rw [if_neg (by omega)];exact ⟨Below.refl _ _,trivial,rfl⟩
  exact looseSteps_nil
 ·intro w3 hb3
  simp only [List.take_succ_cons,List.take_zero,List.drop_succ_cons,List.drop_zero];refine looseAll_cons fun v6 h6 => ?_
  refine looseAll_cons fun v7 h7 => ?_
  refine looseAll_cons fun v8 h8 => ?_
  refine looseAll_cons fun v9 h9 => ?_
  refine looseAll_cons fun v10 h10 => ?_
  refine looseAll_cons fun v11 h11 => ?_
  refine looseAll_cons fun v12 h12 => ?_
  refine looseAll_cons fun v13 h13 => ?_
  refine looseAll_cons fun v14 h14 => ?_
  refine looseAll_cons fun v15 h15 => ?_
  refine looseAll_cons fun v16 h16 => ?_
  refine looseAll_cons fun v17 h17 => ?_
  refine looseAll_cons fun v18 h18 => ?_
  refine looseAll_cons fun v19 h19 => ?_
  refine looseAll_cons fun v20 h20 => ?_
  refine looseAll_cons fun v21 h21 => ?_
  refine looseAll_cons fun v22 h22 => ?_
  refine looseAll_cons fun v23 h23 => ?_
  refine looseAll_cons fun v24 h24 => ?_
  refine looseAll_nil ?_;have h24' : v24 = .string (kw ++ { data:=#[32] } ++ mk ++ { data:=#[32] } ++ ht ++ { data:=#[32] } ++ what):=h24;subst h24';clear h6 h7 h8 h9 h10 h11 h12 h13 h14 h15 h16 h17 h18 h19 h20 h21 h22 h23 h24;simp only [Act.put,List.setIfInBounds_toArray,List.set_cons_zero,List.set_cons_succ]
  go_wp2_with fail
  go_ret;exact ⟨ret_st HQ.out.symm,k1.trans (hb3.mono k1.size)⟩
end Go.Proofs.YtfnmlffpnmmcdaaGreatDoor
namespace Go.Proofs.YtfnmlffpnmmcdaaGreatDoor
set_option maxRecDepth 100000
open Go.RowKit
set_option maxHeartbeats 1600000 in
theorem specReadHandle_any (s : ByteArray) (w : World) (hs : s.size ≤ maxLen) : Calls Tryz.prog 35 #[.string s] w fun e w' => e = .returned (.tuple #[.agg #[.string (rhOf s).1,.string (rhOf s).2],.bool (rhOk s)]) ∧ Below w.heap.size w w':=by
 have hsm:=hs;unfold maxLen at hs;have oR : OwnE 2 encHandle 29 (w.alloc (.cells #[.string { data:=#[] },.string { data:=#[] }] 29)) w.heap.size (some ⟨w.heap.size,0,none⟩) 1 [({ data:=#[] },{ data:=#[] })]:=Own.lit w 29 2 1 #[.string { data:=#[] },.string { data:=#[] }] (cE 2 encHandle [({ data:=#[] },{ data:=#[] })]) (by simp only [maxLen]; omega) rfl;have hbA : Below w.heap.size w (w.alloc (.cells #[.string { data:=#[] },.string { data:=#[] }] 29)):=(Below.refl _ _).alloc (Nat.le_refl _) _;have hzA : w.heap.size < (w.alloc (.cells #[.string { data:=#[] },.string { data:=#[] }] 29)).heap.size:=by simp
 have hbb:=bb_eq s;by_cases hp : 1 ≤ s.size
 ·go_enter Tryz.func35,Tryz.ntmps35
  go_wp2_with fail
  generalize (w.alloc (.cells #[.string { data:=#[] },.string { data:=#[] }] 29)) = wA at *
  go_loop [4] (fun i => ∃ k : Nat,1 ≤ k ∧ k ≤ s.size ∧ Hid (rhK s = fb s 64 k) ∧ i = .int .i64 k) (fun i => s.size - (intOf i).toNat)
  case atStart => exact ⟨1,Nat.le_refl _,hp,Lib.hid rfl,rfl⟩
  case round =>
   obtain ⟨k,hk1,hk,hK,rfl⟩:=hrel;by_cases hlt : k < s.size
   ·by_cases hc : bb s k = 64
    ·have e1 : (bb s k != 64) = false:=by simp [hc]
     have hKk : rhK s = k:=hK.out.trans (fb_here hlt hc);have hH : rhH s = (s.extract 1 k,s.extract (k + 1) s.size):=by unfold rhH; rw [hKk]
     have hw2 : IntKind.i64.wrap ((k : Int) + 1) = (k : Int) + 1:=IntWalk.i64_in _ (by omega);have hkt : ((k : Int) + 1).toNat = k + 1:=by omega
     have hk3 : (0 : Int) ≤ (k : Int) + 1:=by omega
     have hk4 : (k : Int) + 1 ≤ (s.size : Int):=by omega
     have hk5 : (1 : Int) ≤ (k : Int):=by omega
     have hk6 : (k : Int) ≤ (s.size : Int):=by omega
     have hn1 : (s.extract 1 k).size ≤ maxLen:=by rw [ByteArray.size_extract]; omega
     have hn2 : (s.extract (k + 1) s.size).size ≤ maxLen:=by rw [ByteArray.size_extract]; omega
     have hcall:=fun W => specHandleValid_b (s.extract 1 k) (s.extract (k + 1) s.size) W hn1 hn2
     rw [← hH] at hcall;have hcall2:=fun W => specHandleText_any (s.extract 1 k) (s.extract (k + 1) s.size) W hn1 hn2
     rw [← hH] at hcall2;cases hv : hvB (rhH s)
     ·skip
      have hok:=rhOk_no3 hv;have HQ:=Lib.hid (show rhOf s = ({ data:=#[] },{ data:=#[] }) ∧ rhOk s = false from ⟨rhOf_no hok,hok⟩);rw [hv] at hcall;have HC:=Lib.hid hcall;clear hcall hcall2 hv hok hH hKk hK hc
      go_wp2_with fail
      go_region
      have oR2 : OwnE 2 encHandle 29 ((wA.alloc (.cells #[.string (s.extract 1 k),.string (s.extract (k + 1) s.size)] 29)).drew) w.heap.size (some ⟨w.heap.size,0,none⟩) 1 [({ data:=#[] },{ data:=#[] })]:=Own.below oR (((Below.refl _ _).alloc (Nat.le_refl _) (.cells #[.string (s.extract 1 k),.string (s.extract (k + 1) s.size)] 29)).drew);have k2 : Below w.heap.size w ((wA.alloc (.cells #[.string (s.extract 1 k),.string (s.extract (k + 1) s.size)] 29)).drew):=(hbA.alloc hbA.size (.cells #[.string (s.extract 1 k),.string (s.extract (k + 1) s.size)] 29)).drew;have z2 : wA.heap.size < ((wA.alloc (.cells #[.string (s.extract 1 k),.string (s.extract (k + 1) s.size)] 29)).drew).heap.size:=by show wA.heap.size < (wA.alloc (.cells #[.string (s.extract 1 k),.string (s.extract (k + 1) s.size)] 29)).heap.size; simp
      have p0 : ((wA.alloc (.cells #[.string (s.extract 1 k),.string (s.extract (k + 1) s.size)] 29)).drew).cell? ⟨wA.heap.size,0,none⟩ = some (Value.string (s.extract 1 k)):=by show (wA.alloc (.cells #[.string (s.extract 1 k),.string (s.extract (k + 1) s.size)] 29)).cell? _ = _; rw [World.cell?_alloc_at _ _ _ _ rfl]; rfl
      have p1 : ((wA.alloc (.cells #[.string (s.extract 1 k),.string (s.extract (k + 1) s.size)] 29)).drew).cell? ⟨wA.heap.size,1,none⟩ = some (Value.string (s.extract (k + 1) s.size)):=by show (wA.alloc (.cells #[.string (s.extract 1 k),.string (s.extract (k + 1) s.size)] 29)).cell? _ = _; rw [World.cell?_alloc_at _ _ _ _ rfl]; rfl
      go_wp2_with fail
      generalize ((wA.alloc (.cells #[.string (s.extract 1 k),.string (s.extract (k + 1) s.size)] 29)).drew) = w2 at *
      refine (HC.out w2).mono ?_;rintro e w3 ⟨rfl,b3⟩;have oR3:=Own.below oR2 b3;have k3:=k2.trans (b3.mono k2.size);have z3 : wA.heap.size < w3.heap.size:=by have:=b3.size; omega
      have p0x:=(b3.cell (p:=⟨wA.heap.size,0,none⟩) z2).trans p0;have p1x:=(b3.cell (p:=⟨wA.heap.size,1,none⟩) z2).trans p1;clear p0 p1 oR oR2;have r0:=oR3.cell (b:=w.heap.size) rfl (j:=0) (by simp);have r1:=oR3.cell (b:=w.heap.size) rfl (j:=1) (by simp);have rf0:=oR3.frozen (b:=w.heap.size) rfl 0;have rf1:=oR3.frozen (b:=w.heap.size) rfl 1;have r0 : _ = some (Value.string { data:=#[] }):=r0;have r1 : _ = some (Value.string { data:=#[] }):=r1
      go_wp2_with fail
      exact bodyPost_ret (v:=.tuple #[.agg #[.string { data:=#[] },.string { data:=#[] }],.bool false]) (by simp [results,Tryz.results35,go_sem,r0,r1]) rfl ⟨by rw [HQ.out.1,HQ.out.2],((k3.setCell (p:=⟨w.heap.size,0,none⟩) (Nat.le_refl _) _).setCell (p:=⟨w.heap.size,1,none⟩) (Nat.le_refl _) _)⟩
     ·rw [hv] at hcall
      have HC:=Lib.hid hcall;have HC2:=Lib.hid hcall2;clear hcall hcall2;by_cases h0 : bb s 0 = 64
      ·have hok:=rhOk_yes h0 (by omega) hv
       have HQ:=Lib.hid (show rhOf s = (s.extract 1 k,s.extract (k + 1) s.size) ∧ rhOk s = true from ⟨(rhOf_yes hok).trans hH,hok⟩);have hne : ((htOf (rhH s)).toList != s.toList) = false:=by rw [ht_rh h0 (by omega) hv]; simp
       have hne2 : ((htOf (rhH s)).toList == s.toList) = true:=by rw [ht_rh h0 (by omega) hv]; simp
       clear hok hH hKk hK hc hv h0
       go_wp2_with fail
       go_region
       have oR2 : OwnE 2 encHandle 29 ((wA.alloc (.cells #[.string (s.extract 1 k),.string (s.extract (k + 1) s.size)] 29)).drew) w.heap.size (some ⟨w.heap.size,0,none⟩) 1 [({ data:=#[] },{ data:=#[] })]:=Own.below oR (((Below.refl _ _).alloc (Nat.le_refl _) (.cells #[.string (s.extract 1 k),.string (s.extract (k + 1) s.size)] 29)).drew);have k2 : Below w.heap.size w ((wA.alloc (.cells #[.string (s.extract 1 k),.string (s.extract (k + 1) s.size)] 29)).drew):=(hbA.alloc hbA.size (.cells #[.string (s.extract 1 k),.string (s.extract (k + 1) s.size)] 29)).drew;have z2 : wA.heap.size < ((wA.alloc (.cells #[.string (s.extract 1 k),.string (s.extract (k + 1) s.size)] 29)).drew).heap.size:=by show wA.heap.size < (wA.alloc (.cells #[.string (s.extract 1 k),.string (s.extract (k + 1) s.size)] 29)).heap.size; simp
       have p0 : ((wA.alloc (.cells #[.string (s.extract 1 k),.string (s.extract (k + 1) s.size)] 29)).drew).cell? ⟨wA.heap.size,0,none⟩ = some (Value.string (s.extract 1 k)):=by show (wA.alloc (.cells #[.string (s.extract 1 k),.string (s.extract (k + 1) s.size)] 29)).cell? _ = _; rw [World.cell?_alloc_at _ _ _ _ rfl]; rfl
       have p1 : ((wA.alloc (.cells #[.string (s.extract 1 k),.string (s.extract (k + 1) s.size)] 29)).drew).cell? ⟨wA.heap.size,1,none⟩ = some (Value.string (s.extract (k + 1) s.size)):=by show (wA.alloc (.cells #[.string (s.extract 1 k),.string (s.extract (k + 1) s.size)] 29)).cell? _ = _; rw [World.cell?_alloc_at _ _ _ _ rfl]; rfl
       go_wp2_with fail
       generalize ((wA.alloc (.cells #[.string (s.extract 1 k),.string (s.extract (k + 1) s.size)] 29)).drew) = w2 at *
       refine (HC.out w2).mono ?_;rintro e w3 ⟨rfl,b3⟩;have oR3:=Own.below oR2 b3;have k3:=k2.trans (b3.mono k2.size);have z3 : wA.heap.size < w3.heap.size:=by have:=b3.size; omega
       have p0x:=(b3.cell (p:=⟨wA.heap.size,0,none⟩) z2).trans p0;have p1x:=(b3.cell (p:=⟨wA.heap.size,1,none⟩) z2).trans p1;clear p0 p1 oR oR2
       go_wp2_with fail
       refine (HC2.out w3).mono ?_;rintro e w4 ⟨rfl,b4⟩;have oR4:=Own.below oR3 b4;have k4:=k3.trans (b4.mono k3.size);have p0y:=(b4.cell (p:=⟨wA.heap.size,0,none⟩) z3).trans p0x;have p1y:=(b4.cell (p:=⟨wA.heap.size,1,none⟩) z3).trans p1x;have r0:=oR4.cell (b:=w.heap.size) rfl (j:=0) (by simp);have r1:=oR4.cell (b:=w.heap.size) rfl (j:=1) (by simp);have rf0:=oR4.frozen (b:=w.heap.size) rfl 0;have rf1:=oR4.frozen (b:=w.heap.size) rfl 1;have r0 : _ = some (Value.string { data:=#[] }):=r0;have r1 : _ = some (Value.string { data:=#[] }):=r1
       go_wp2_with fail
       exact bodyPost_ret (v:=.tuple #[.agg #[.string (s.extract 1 k),.string (s.extract (k + 1) s.size)],.bool true]) (by simp [results,Tryz.results35,go_sem,r0,r1]) rfl ⟨by rw [HQ.out.1,HQ.out.2],((k4.setCell (p:=⟨w.heap.size,0,none⟩) (Nat.le_refl _) _).setCell (p:=⟨w.heap.size,1,none⟩) (Nat.le_refl _) _)⟩
      ·skip
       have hok:=rhOk_no1 h0;have HQ:=Lib.hid (show rhOf s = ({ data:=#[] },{ data:=#[] }) ∧ rhOk s = false from ⟨rhOf_no hok,hok⟩);have hne : ((htOf (rhH s)).toList != s.toList) = true:=by rw [seq_neq,seq_false.2 (ht_other h0 hv)]; rfl
       have hne2 : ((htOf (rhH s)).toList == s.toList) = false:=by rw [seq_eql,seq_false.2 (ht_other h0 hv)]
       clear hok hH hKk hK hc hv h0
       go_wp2_with fail
       go_region
       have oR2 : OwnE 2 encHandle 29 ((wA.alloc (.cells #[.string (s.extract 1 k),.string (s.extract (k + 1) s.size)] 29)).drew) w.heap.size (some ⟨w.heap.size,0,none⟩) 1 [({ data:=#[] },{ data:=#[] })]:=Own.below oR (((Below.refl _ _).alloc (Nat.le_refl _) (.cells #[.string (s.extract 1 k),.string (s.extract (k + 1) s.size)] 29)).drew);have k2 : Below w.heap.size w ((wA.alloc (.cells #[.string (s.extract 1 k),.string (s.extract (k + 1) s.size)] 29)).drew):=(hbA.alloc hbA.size (.cells #[.string (s.extract 1 k),.string (s.extract (k + 1) s.size)] 29)).drew;have z2 : wA.heap.size < ((wA.alloc (.cells #[.string (s.extract 1 k),.string (s.extract (k + 1) s.size)] 29)).drew).heap.size:=by show wA.heap.size < (wA.alloc (.cells #[.string (s.extract 1 k),.string (s.extract (k + 1) s.size)] 29)).heap.size; simp
       have p0 : ((wA.alloc (.cells #[.string (s.extract 1 k),.string (s.extract (k + 1) s.size)] 29)).drew).cell? ⟨wA.heap.size,0,none⟩ = some (Value.string (s.extract 1 k)):=by show (wA.alloc (.cells #[.string (s.extract 1 k),.string (s.extract (k + 1) s.size)] 29)).cell? _ = _; rw [World.cell?_alloc_at _ _ _ _ rfl]; rfl
       have p1 : ((wA.alloc (.cells #[.string (s.extract 1 k),.string (s.extract (k + 1) s.size)] 29)).drew).cell? ⟨wA.heap.size,1,none⟩ = some (Value.string (s.extract (k + 1) s.size)):=by show (wA.alloc (.cells #[.string (s.extract 1 k),.string (s.extract (k + 1) s.size)] 29)).cell? _ = _; rw [World.cell?_alloc_at _ _ _ _ rfl]; rfl
       go_wp2_with fail
       generalize ((wA.alloc (.cells #[.string (s.extract 1 k),.string (s.extract (k + 1) s.size)] 29)).drew) = w2 at *
       refine (HC.out w2).mono ?_;rintro e w3 ⟨rfl,b3⟩;have oR3:=Own.below oR2 b3;have k3:=k2.trans (b3.mono k2.size);have z3 : wA.heap.size < w3.heap.size:=by have:=b3.size; omega
       have p0x:=(b3.cell (p:=⟨wA.heap.size,0,none⟩) z2).trans p0;have p1x:=(b3.cell (p:=⟨wA.heap.size,1,none⟩) z2).trans p1;clear p0 p1 oR oR2
       go_wp2_with fail
       refine (HC2.out w3).mono ?_;rintro e w4 ⟨rfl,b4⟩;have oR4:=Own.below oR3 b4;have k4:=k3.trans (b4.mono k3.size);have p0y:=(b4.cell (p:=⟨wA.heap.size,0,none⟩) z3).trans p0x;have p1y:=(b4.cell (p:=⟨wA.heap.size,1,none⟩) z3).trans p1x;have r0:=oR4.cell (b:=w.heap.size) rfl (j:=0) (by simp);have r1:=oR4.cell (b:=w.heap.size) rfl (j:=1) (by simp);have rf0:=oR4.frozen (b:=w.heap.size) rfl 0;have rf1:=oR4.frozen (b:=w.heap.size) rfl 1;have r0 : _ = some (Value.string { data:=#[] }):=r0;have r1 : _ = some (Value.string { data:=#[] }):=r1
       go_wp2_with fail
       exact bodyPost_ret (v:=.tuple #[.agg #[.string { data:=#[] },.string { data:=#[] }],.bool false]) (by simp [results,Tryz.results35,go_sem,r0,r1]) rfl ⟨by rw [HQ.out.1,HQ.out.2],((k4.setCell (p:=⟨w.heap.size,0,none⟩) (Nat.le_refl _) _).setCell (p:=⟨w.heap.size,1,none⟩) (Nat.le_refl _) _)⟩
    ·have e1 : (bb s k != 64) = true:=by simp [hc]
     have HN:=Lib.hid (hK.out.trans (fb_step hlt hc))
     go_wp2_with fail
     go_round
     case rel => exact ⟨k + 1,by omega,by omega,HN,by go_num⟩
     case measure => first | (simp [intOf]; done) | (simp [intOf]; omega)
   ·obtain rfl : k = s.size:=by omega
    have hok:=rhOk_no2 (s:=s) (by rw [hK.out,fb_out (Nat.le_refl _)]; exact Nat.le_refl _);have HQ:=Lib.hid (show rhOf s = ({ data:=#[] },{ data:=#[] }) ∧ rhOk s = false from ⟨rhOf_no hok,hok⟩);clear hok hK;have r0:=oR.cell (b:=w.heap.size) rfl (j:=0) (by simp);have r1:=oR.cell (b:=w.heap.size) rfl (j:=1) (by simp);have rf0:=oR.frozen (b:=w.heap.size) rfl 0;have rf1:=oR.frozen (b:=w.heap.size) rfl 1;have r0 : _ = some (Value.string { data:=#[] }):=r0;have r1 : _ = some (Value.string { data:=#[] }):=r1
    go_wp2_with fail
    exact bodyPost_ret (v:=.tuple #[.agg #[.string { data:=#[] },.string { data:=#[] }],.bool false]) (by simp [results,Tryz.results35,go_sem,r0,r1]) rfl ⟨by rw [HQ.out.1,HQ.out.2],((hbA.setCell (p:=⟨w.heap.size,0,none⟩) (Nat.le_refl _) _).setCell (p:=⟨w.heap.size,1,none⟩) (Nat.le_refl _) _)⟩
 ·have hz : s.size = 0:=by omega
  have hok:=rhOk_no1 (s:=s) (by rw [bb_out (by omega)]; omega);have HQ:=Lib.hid (show rhOf s = ({ data:=#[] },{ data:=#[] }) ∧ rhOk s = false from ⟨rhOf_no hok,hok⟩);have d1 : decide ((1 : Int) < (s.size : Int)) = false:=decide_eq_false (by omega);have d2 : decide ((s.size : Int) ≤ (1 : Int)) = true:=decide_eq_true (by omega);have d3 : decide (s.size ≤ 1) = true:=decide_eq_true (by omega);clear hok hz;have r0:=oR.cell (b:=w.heap.size) rfl (j:=0) (by simp);have r1:=oR.cell (b:=w.heap.size) rfl (j:=1) (by simp);have rf0:=oR.frozen (b:=w.heap.size) rfl 0;have rf1:=oR.frozen (b:=w.heap.size) rfl 1;have r0 : _ = some (Value.string { data:=#[] }):=r0;have r1 : _ = some (Value.string { data:=#[] }):=r1;go_enter Tryz.func35,Tryz.ntmps35
  go_wp2_with fail
  generalize (w.alloc (.cells #[.string { data:=#[] },.string { data:=#[] }] 29)) = wA at *
  refine wp_loop_rounds 1 ?_;rw [rounds_succ]
  go_wp2_with fail
  exact bodyPost_ret (v:=.tuple #[.agg #[.string { data:=#[] },.string { data:=#[] }],.bool false]) (by simp [results,Tryz.results35,go_sem,r0,r1]) rfl ⟨by rw [HQ.out.1,HQ.out.2],((hbA.setCell (p:=⟨w.heap.size,0,none⟩) (Nat.le_refl _) _).setCell (p:=⟨w.heap.size,1,none⟩) (Nat.le_refl _) _)⟩
end Go.Proofs.YtfnmlffpnmmcdaaGreatDoor
namespace Go.Proofs.YtfnmlffpnmmcdaaGreatDoor
set_option maxRecDepth 100000
open Go.RowKit
set_option maxHeartbeats 3200000 in
theorem specReadItem_any (s : ByteArray) (w : World) (hs : s.size + 5 ≤ maxLen) : Calls Tryz.prog 39 #[.string s] w fun e w' => e = .returned (.tuple #[.agg #[.string (riOf s).1,.string (riOf s).2.1,.string (riOf s).2.2.1,.int .i64 (riOf s).2.2.2],.bool (riOk s)]) ∧ Below w.heap.size w w':=by
 have oR : OwnE 4 encItem 69 (w.alloc (.cells #[.string { data:=#[] },.string { data:=#[] },.string { data:=#[] },.int .i64 0] 69)) w.heap.size (some ⟨w.heap.size,0,none⟩) 1 [({ data:=#[] },{ data:=#[] },{ data:=#[] },0)]:=Own.lit w 69 4 1 #[.string { data:=#[] },.string { data:=#[] },.string { data:=#[] },.int .i64 0] (cE 4 encItem [({ data:=#[] },{ data:=#[] },{ data:=#[] },0)]) (by simp only [maxLen]; omega) rfl;have hbA : Below w.heap.size w (w.alloc (.cells #[.string { data:=#[] },.string { data:=#[] },.string { data:=#[] },.int .i64 0] 69)):=(Below.refl _ _).alloc (Nat.le_refl _) _;have hzA : w.heap.size < (w.alloc (.cells #[.string { data:=#[] },.string { data:=#[] },.string { data:=#[] },.int .i64 0] 69)).heap.size:=by simp
 have hev:=evB_at (elOf_valid s);have hl8:=hev.1
 have HEV:=Lib.hid (fun k (hk : k < (elOf s).length) => (show (gt (elOf s) k).1.size ≤ maxLen ∧ (gt (elOf s) k).2.size ≤ maxLen by
  have h:=hev.2 k hk;unfold eB at h;rw [Bool.and_eq_true] at h;have h1:=(Word.of h.1).2.1;have h2:=(Text.of h.2).1
  unfold maxLen; omega))
 clear hev;go_enter Tryz.func39,Tryz.ntmps39
 go_wp2_with fail
 generalize (w.alloc (.cells #[.string { data:=#[] },.string { data:=#[] },.string { data:=#[] },.int .i64 0] 69)) = wA at *
 refine (specReadElements_any s wA hs).mono ?_;rintro e w1 ⟨R,cR,rfl,oX,b1⟩;have HYS:=Lib.hid (fun h1 h2 h3 => ri_yes (s:=s) h1 h2 h3);have HNO:=Lib.hid (fun h => ri_no (s:=s) h);generalize hxs : elOf s = xs at *
 clear hxs;have oR1:=Own.below oR b1;have k1:=hbA.trans (b1.mono hbA.size);have z1:=k1.size;have zz1 : w.heap.size < w1.heap.size:=Nat.lt_of_lt_of_le hzA b1.size;have hX:=OwnE.rd oX;clear oR hbA hzA b1;have oN : Own (w1.alloc (.cells #[.string { data:=#[107,101,121] },.string { data:=#[116,105,116,108,101] },.string { data:=#[100,97,121] },.string { data:=#[98,111,100,121] }] 9)) w1.heap.size 9 1 (some ⟨w1.heap.size,0,none⟩) 4 4 nmC:=Own.lit w1 9 1 4 _ _ (by simp only [maxLen]; omega) rfl;have kN : Below w1.heap.size w1 (w1.alloc (.cells #[.string { data:=#[107,101,121] },.string { data:=#[116,105,116,108,101] },.string { data:=#[100,97,121] },.string { data:=#[98,111,100,121] }] 9)):=(Below.refl _ _).alloc (Nat.le_refl _) _
 go_wp2_with fail
 go_loopw [5,7,8,9] (fun o i _ _ wr => ∃ (k : Nat) (q : Bool),k ≤ 4 ∧ Hid (q = (elOk s && nmTo xs k)) ∧ o = .bool q ∧ i = .int .i64 k ∧ Own wr w1.heap.size 9 1 (some ⟨w1.heap.size,0,none⟩) 4 4 nmC ∧ Below w1.heap.size w1 wr) (fun _ i _ _ _ => 4 - (intOf i).toNat)
 case atStart => exact ⟨0,elOk s,Nat.zero_le _,Lib.hid (Bool.and_true _).symm,rfl,rfl,oN,kN⟩
 case round =>
  clear oN kN;obtain ⟨k,q,hk,hq,rfl,rfl,oN,kr⟩:=hrel;have kz:=kr.size;by_cases hlt : k < 4
  ·have hki : (k : Int) < 4:=by omega
   have cn : wr.cell? ⟨w1.heap.size,k,none⟩ = some (.string (nms k)):=oN.cell rfl (j:=k) (by omega);have zN:=(oN.lt (b:=w1.heap.size) rfl).2
   go_wp2_with fail
   obtain ⟨wo,rfl⟩ : ∃ wo : World,wo = wr:=⟨_,rfl⟩
   go_loopw [8,9] (fun m i wr => ∃ t : Nat,t ≤ xs.length ∧ m = .int .i64 (tnTo xs (nms k) t) ∧ i = .int .i64 t ∧ Below wo.heap.size wo wr) (fun _ i _ => xs.length - (intOf i).toNat)
   case atStart => exact ⟨0,Nat.zero_le _,rfl,rfl,Below.refl _ _⟩
   case round =>
    obtain ⟨t,ht,rfl,rfl,hbt⟩:=hrel;have kt:=kr.trans (hbt.mono kz);have htl:=tnTo_le xs (nms k) t;by_cases htt : t < xs.length
    ·have cn2 : wr.cell? ⟨w1.heap.size,k,none⟩ = some (.string (nms k)):=(hbt.cell (by exact zN)).trans cn
     obtain ⟨b,off,rfl,hb,hc⟩:=(hX.below kt).at_ (by omega);have c0 : wr.cell? ⟨b,off + t * 2,none⟩ = some (Value.string (gt xs t).1):=hc t 0 (by omega) (by omega);have c1 : wr.cell? ⟨b,off + t * 2 + 1,none⟩ = some (Value.string (gt xs t).2):=hc t 1 (by omega) (by omega);clear hc cn;by_cases hqe : isE (nms k) (gt xs t) = true
     ·have q0 : ((gt xs t).1.toList == (nms k).toList) = true:=by rw [seq_eql]; exact hqe
      have HN:=Lib.hid (tnTo_yes hqe);clear hqe
      go_wp2_with fail
      go_quiet (fail)
      go_wp2_with fail
      go_roundw
      case rel => exact ⟨t + 1,by omega,by rw [HN.out]; go_num,by go_num,below_drewN hbt _⟩
      case measure => simp [intOf]; omega
     ·have hq' : isE (nms k) (gt xs t) = false:=by simpa using hqe
      have q0 : ((gt xs t).1.toList == (nms k).toList) = false:=by rw [seq_eql]; exact hq'
      have HN:=Lib.hid (tnTo_no hq');clear hqe hq'
      go_wp2_with fail
      go_quiet (fail)
      go_wp2_with fail
      go_roundw
      case rel => exact ⟨t + 1,by omega,by rw [HN.out],by go_num,below_drewN hbt _⟩
      case measure => simp [intOf]; omega
    ·obtain rfl : t = xs.length:=by omega
     obtain ⟨m,hm⟩ : ∃ m,m = tnTo xs (nms k) xs.length:=⟨_,rfl⟩;rw [← hm] at htl;rw [← hm];have hm2 : tnOf xs (nms k) = m:=hm.symm;have oN2:=Own.below oN hbt;clear hm cn;by_cases h1 : 1 < m
     ·have g1 : decide ((1 : Int) < (m : Int)) = true:=decide_eq_true (by omega)
      have HN : Hid (false = (elOk s && nmTo xs (k + 1))):=Lib.hid (by rw [nmTo,nmB_no (by omega) (.inl (by omega)),Bool.and_false,Bool.and_false]);clear hm2
      go_wp2_with fail
      go_roundw
      case rel => exact ⟨k + 1,false,by omega,HN,rfl,by go_num,oN2,kt⟩
      case measure => simp [intOf]; omega
     ·have g1 : decide ((1 : Int) < (m : Int)) = false:=decide_eq_false (by omega)
      by_cases h0 : m = 0
      ·subst h0
       have g1 : decide ((1 : Int) < ((0 : Nat) : Int)) = false:=g1;by_cases h3 : k < 3
       ·have g3 : decide ((k : Int) < 3) = true:=decide_eq_true (by omega)
        have HN : Hid (false = (elOk s && nmTo xs (k + 1))):=Lib.hid (by rw [nmTo,nmB_no (by omega) (.inr h3),Bool.and_false,Bool.and_false]);clear hm2
        go_wp2_with fail
        go_roundw
        case rel => exact ⟨k + 1,false,by omega,HN,rfl,by go_num,oN2,kt⟩
        case measure => simp [intOf]; omega
       ·have g3 : decide ((k : Int) < 3) = false:=decide_eq_false (by omega)
        have HN : Hid (q = (elOk s && nmTo xs (k + 1))):=Lib.hid (by rw [nmTo,nmB_yes (.inr ⟨by omega,h3⟩),Bool.and_true]; exact hq.out);clear hm2
        go_wp2_with fail
        go_roundw
        case rel => exact ⟨k + 1,q,by omega,HN,rfl,by go_num,oN2,kt⟩
        case measure => simp [intOf]; omega
      ·have g2 : ((m : Int) == 0) = false:=by rw [beq_eq_false_iff_ne]; omega
       have HN : Hid (q = (elOk s && nmTo xs (k + 1))):=Lib.hid (by rw [nmTo,nmB_yes (.inl (by omega)),Bool.and_true]; exact hq.out);clear hm2
       go_wp2_with fail
       go_roundw
       case rel => exact ⟨k + 1,q,by omega,HN,rfl,by go_num,oN2,kt⟩
       case measure => simp [intOf]; omega
  ·obtain rfl : k = 4:=by omega
   have kw:=k1.trans (kr.mono z1);cases q
   ·have HQ:=Lib.hid (HNO.out (by
       have h:=hq.out;cases h1 : elOk s
       ·exact .inl rfl
       ·refine .inr (.inl (fun h2 => ?_))
        rw [h1,(nmTo_all xs).2 h2] at h
        cases h))
    have oRr:=Own.belowB oR1 kr (fun b hb => by simp [blk] at hb; omega);have r0:=oRr.cell (b:=w.heap.size) rfl (j:=0) (by simp);have r1:=oRr.cell (b:=w.heap.size) rfl (j:=1) (by simp);have r2:=oRr.cell (b:=w.heap.size) rfl (j:=2) (by simp);have r3:=oRr.cell (b:=w.heap.size) rfl (j:=3) (by simp);have rf0:=oRr.frozen (b:=w.heap.size) rfl 0;have rf1:=oRr.frozen (b:=w.heap.size) rfl 1;have rf2:=oRr.frozen (b:=w.heap.size) rfl 2;have rf3:=oRr.frozen (b:=w.heap.size) rfl 3;have r0 : _ = some (Value.string { data:=#[] }):=r0;have r1 : _ = some (Value.string { data:=#[] }):=r1;have r2 : _ = some (Value.string { data:=#[] }):=r2;have r3 : _ = some (Value.int .i64 0):=r3
    go_wp2_with fail
    exact bodyPost_ret (v:=.tuple #[.agg #[.string { data:=#[] },.string { data:=#[] },.string { data:=#[] },.int .i64 0],.bool false]) (by simp [results,Tryz.results39,go_sem,r0,r1,r2,r3]) rfl ⟨by rw [HQ.out.1,HQ.out.2]; first | done | rfl,(by first | exact kw | exact ((((kw.setCell (p:=⟨w.heap.size,0,none⟩) (Nat.le_refl _) _).setCell (p:=⟨w.heap.size,1,none⟩) (Nat.le_refl _) _).setCell (p:=⟨w.heap.size,2,none⟩) (Nat.le_refl _) _).setCell (p:=⟨w.heap.size,3,none⟩) (Nat.le_refl _) _))⟩
   ·have HOK : Hid (elOk s = true ∧ rsOk xs):=Lib.hid (by
       have h:=hq.out.symm;rw [Bool.and_eq_true] at h
       exact ⟨h.1,(nmTo_all xs).1 h.2⟩)
    clear hq oN hlt hk;have oRr:=Own.belowB oR1 kr (fun b hb => by simp [blk] at hb; omega)
    go_wp2_with fail
    refine (specElementText_any R cR w1.heap.size xs (nms 0) wr (hX.below kr) kr.size (by omega) HEV.out).mono ?_;rintro e v0 ⟨rfl,c0⟩;have q0:=kr.trans (c0.mono kr.size)
    go_wp2_with fail
    refine (specElementText_any R cR w1.heap.size xs (nms 1) v0 (hX.below q0) q0.size (by omega) HEV.out).mono ?_;rintro e v1 ⟨rfl,c1⟩;have q1:=q0.trans (c1.mono q0.size)
    go_wp2_with fail
    refine (specElementText_any R cR w1.heap.size xs (nms 3) v1 (hX.below q1) q1.size (by omega) HEV.out).mono ?_;rintro e v2 ⟨rfl,c2⟩;have q2:=q1.trans (c2.mono q1.size)
    go_wp2_with fail
    refine (specElementText_any R cR w1.heap.size xs (nms 2) v2 (hX.below q2) q2.size (by omega) HEV.out).mono ?_;rintro e v3 ⟨rfl,c3⟩;have q3:=q2.trans (c3.mono q2.size)
    go_wp2_with fail
    refine (specReadDate_any (etOf xs (nms 2)) v3 (by have:=etOf_size xs (nms 2); unfold maxLen; omega)).mono ?_;rintro e v4 ⟨rfl,c4⟩;have q4:=q3.trans (c4.mono q3.size);clear c0 c1 c2 c3 c4 q0 q1 q2 q3;have q5 : Below w1.heap.size w1 (v4.alloc (.cells #[.string (etOf xs (nms 0)),.string (etOf xs (nms 1)),.string (etOf xs (nms 3)),.int .i64 (rdD (etOf xs (nms 2)))] 69)):=q4.alloc q4.size _;have d0 : (v4.alloc (.cells #[.string (etOf xs (nms 0)),.string (etOf xs (nms 1)),.string (etOf xs (nms 3)),.int .i64 (rdD (etOf xs (nms 2)))] 69)).cell? ⟨v4.heap.size,0,none⟩ = some (Value.string (etOf xs (nms 0))):=by rw [World.cell?_alloc_at _ _ _ _ rfl]; rfl
    have d1 : (v4.alloc (.cells #[.string (etOf xs (nms 0)),.string (etOf xs (nms 1)),.string (etOf xs (nms 3)),.int .i64 (rdD (etOf xs (nms 2)))] 69)).cell? ⟨v4.heap.size,1,none⟩ = some (Value.string (etOf xs (nms 1))):=by rw [World.cell?_alloc_at _ _ _ _ rfl]; rfl
    have d2 : (v4.alloc (.cells #[.string (etOf xs (nms 0)),.string (etOf xs (nms 1)),.string (etOf xs (nms 3)),.int .i64 (rdD (etOf xs (nms 2)))] 69)).cell? ⟨v4.heap.size,2,none⟩ = some (Value.string (etOf xs (nms 3))):=by rw [World.cell?_alloc_at _ _ _ _ rfl]; rfl
    have d3 : (v4.alloc (.cells #[.string (etOf xs (nms 0)),.string (etOf xs (nms 1)),.string (etOf xs (nms 3)),.int .i64 (rdD (etOf xs (nms 2)))] 69)).cell? ⟨v4.heap.size,3,none⟩ = some (Value.int .i64 (rdD (etOf xs (nms 2)))):=by rw [World.cell?_alloc_at _ _ _ _ rfl]; rfl
    have zA5 : v4.heap.size < (v4.alloc (.cells #[.string (etOf xs (nms 0)),.string (etOf xs (nms 1)),.string (etOf xs (nms 3)),.int .i64 (rdD (etOf xs (nms 2)))] 69)).heap.size:=by simp
    have e0:=etOf_size xs (nms 0);have e1:=etOf_size xs (nms 1);have e3:=etOf_size xs (nms 3);have HCV:=Lib.hid (fun (z : World) => specItemValid_any (etOf xs (nms 0)) (etOf xs (nms 1)) (etOf xs (nms 3)) (rdD (etOf xs (nms 2))) z (by unfold maxLen; omega) (by unfold maxLen; omega) (by unfold maxLen; omega));clear e0 e1 e3
    go_wp2_with fail
    generalize (v4.alloc (.cells #[.string (etOf xs (nms 0)),.string (etOf xs (nms 1)),.string (etOf xs (nms 3)),.int .i64 (rdD (etOf xs (nms 2)))] 69)) = v5 at *
    refine (HCV.out v5).mono ?_;rintro e v6 ⟨rfl,c6⟩;have q6:=q5.trans (c6.mono q5.size);have kw6:=k1.trans (q6.mono z1);have oR6:=Own.belowB oR1 q6 (fun b hb => by simp [blk] at hb; omega);have g0 : v6.cell? ⟨v4.heap.size,0,none⟩ = some (Value.string (etOf xs (nms 0))):=(c6.cell (by exact zA5)).trans d0;clear d0;have g1 : v6.cell? ⟨v4.heap.size,1,none⟩ = some (Value.string (etOf xs (nms 1))):=(c6.cell (by exact zA5)).trans d1;clear d1;have g2 : v6.cell? ⟨v4.heap.size,2,none⟩ = some (Value.string (etOf xs (nms 3))):=(c6.cell (by exact zA5)).trans d2;clear d2;have g3 : v6.cell? ⟨v4.heap.size,3,none⟩ = some (Value.int .i64 (rdD (etOf xs (nms 2)))):=(c6.cell (by exact zA5)).trans d3;clear d3;have r0:=oR6.cell (b:=w.heap.size) rfl (j:=0) (by simp);have r1:=oR6.cell (b:=w.heap.size) rfl (j:=1) (by simp);have r2:=oR6.cell (b:=w.heap.size) rfl (j:=2) (by simp);have r3:=oR6.cell (b:=w.heap.size) rfl (j:=3) (by simp);have rf0:=oR6.frozen (b:=w.heap.size) rfl 0;have rf1:=oR6.frozen (b:=w.heap.size) rfl 1;have rf2:=oR6.frozen (b:=w.heap.size) rfl 2;have rf3:=oR6.frozen (b:=w.heap.size) rfl 3;have r0 : _ = some (Value.string { data:=#[] }):=r0;have r1 : _ = some (Value.string { data:=#[] }):=r1;have r2 : _ = some (Value.string { data:=#[] }):=r2;have r3 : _ = some (Value.int .i64 0):=r3;cases hv : ivB (etOf xs (nms 0),etOf xs (nms 1),etOf xs (nms 3),rdD (etOf xs (nms 2)))
    ·have HQ:=Lib.hid (HNO.out (.inr (.inr hv)))
     clear hv
     go_wp2_with fail
     exact bodyPost_ret (v:=.tuple #[.agg #[.string { data:=#[] },.string { data:=#[] },.string { data:=#[] },.int .i64 0],.bool false]) (by simp [results,Tryz.results39,go_sem,r0,r1,r2,r3]) rfl ⟨by rw [HQ.out.1,HQ.out.2]; first | done | rfl,(by first | exact kw6 | exact ((((kw6.setCell (p:=⟨w.heap.size,0,none⟩) (Nat.le_refl _) _).setCell (p:=⟨w.heap.size,1,none⟩) (Nat.le_refl _) _).setCell (p:=⟨w.heap.size,2,none⟩) (Nat.le_refl _) _).setCell (p:=⟨w.heap.size,3,none⟩) (Nat.le_refl _) _))⟩
    ·have HQ:=Lib.hid (HYS.out HOK.out.1 HOK.out.2 hv)
     clear hv
     go_wp2_with fail
     exact bodyPost_ret (v:=.tuple #[.agg #[.string (etOf xs (nms 0)),.string (etOf xs (nms 1)),.string (etOf xs (nms 3)),.int .i64 (rdD (etOf xs (nms 2)))],.bool true]) (by simp [results,Tryz.results39,go_sem,r0,r1,r2,r3]) rfl ⟨by rw [HQ.out.1,HQ.out.2]; first | done | rfl,(by first | exact kw6 | exact ((((kw6.setCell (p:=⟨w.heap.size,0,none⟩) (Nat.le_refl _) _).setCell (p:=⟨w.heap.size,1,none⟩) (Nat.le_refl _) _).setCell (p:=⟨w.heap.size,2,none⟩) (Nat.le_refl _) _).setCell (p:=⟨w.heap.size,3,none⟩) (Nat.le_refl _) _))⟩
end Go.Proofs.YtfnmlffpnmmcdaaGreatDoor
namespace Go.Proofs.YtfnmlffpnmmcdaaGreatDoor
set_option maxRecDepth 100000
open Go.RowKit
set_option maxHeartbeats 1600000 in
theorem specUnfollow_any (A : Option Addr) (cap B : Nat) (fs : List ElHandle) (h : ElHandle) (w : World) (hr : RdE 2 encHandle w B A fs) (hB : B ≤ w.heap.size) (hS : Shp A fs.length cap) (hv : fvB fs = true) :
    Calls Tryz.prog 38 #[.slice A fs.length cap,.agg #[.string h.1,.string h.2]] w fun e w' => ∃ T' cap',e = .returned (.tuple #[.slice T' (ufOf fs h).length cap',.bool (ufOk fs h)]) ∧ OwnE 2 encHandle 29 w' w.heap.size T' cap' (ufOf fs h) ∧ Below w.heap.size w w':=by
 have h10:=(Fv.of hv).1;have HV:=Lib.hid hv;clear hv;have e0 : (w.alloc (.cells #[.string h.1,.string h.2] 29)).cell? ⟨w.heap.size,0,none⟩ = some (.string h.1):=by rw [World.cell?_alloc_at _ _ _ _ rfl]; rfl
 have e1 : (w.alloc (.cells #[.string h.1,.string h.2] 29)).cell? ⟨w.heap.size,1,none⟩ = some (.string h.2):=by rw [World.cell?_alloc_at _ _ _ _ rfl]; rfl
 have kA : Below w.heap.size w (w.alloc (.cells #[.string h.1,.string h.2] 29)):=(Below.refl _ _).alloc (Nat.le_refl _) _;have zA : w.heap.size < (w.alloc (.cells #[.string h.1,.string h.2] 29)).heap.size:=by simp
 have k2 : Below w.heap.size w ((w.alloc (.cells #[.string h.1,.string h.2] 29)).alloc (.cells #[] 29)):=kA.alloc kA.size _;have e0b : ((w.alloc (.cells #[.string h.1,.string h.2] 29)).alloc (.cells #[] 29)).cell? ⟨w.heap.size,0,none⟩ = some (.string h.1):=(((Below.refl _ _).alloc (Nat.le_refl _) _ : Below (w.alloc (.cells #[.string h.1,.string h.2] 29)).heap.size (w.alloc (.cells #[.string h.1,.string h.2] 29)) ((w.alloc (.cells #[.string h.1,.string h.2] 29)).alloc (.cells #[] 29))).cell (by exact zA)).trans e0;have e1b : ((w.alloc (.cells #[.string h.1,.string h.2] 29)).alloc (.cells #[] 29)).cell? ⟨w.heap.size,1,none⟩ = some (.string h.2):=(((Below.refl _ _).alloc (Nat.le_refl _) _ : Below (w.alloc (.cells #[.string h.1,.string h.2] 29)).heap.size (w.alloc (.cells #[.string h.1,.string h.2] 29)) ((w.alloc (.cells #[.string h.1,.string h.2] 29)).alloc (.cells #[] 29))).cell (by exact zA)).trans e1;have zw : (w.alloc (.cells #[.string h.1,.string h.2] 29)).heap.size = w.heap.size + 1:=by simp
 have hemp : OwnE 2 encHandle 29 ((w.alloc (.cells #[.string h.1,.string h.2] 29)).alloc (.cells #[] 29)) (w.heap.size + 1) (some ⟨w.heap.size + 1,0,none⟩) 0 ([] : List ElHandle):=by have:=Own.lit (w.alloc (.cells #[.string h.1,.string h.2] 29)) 29 2 0 #[] (cE 2 encHandle ([] : List ElHandle)) (Nat.zero_le _) rfl; rw [zw] at this; exact this
 have z2 : w.heap.size + 1 < ((w.alloc (.cells #[.string h.1,.string h.2] 29)).alloc (.cells #[] 29)).heap.size:=by simp
 clear zw e0 e1 zA kA;go_enter Tryz.func38,Tryz.ntmps38
 go_wp2_with fail
 generalize ((w.alloc (.cells #[.string h.1,.string h.2] 29)).alloc (.cells #[] 29)) = w2 at *
 go_loopw [6,7] (fun v i wr => ∃ (k : Nat) (R : Option Addr) (c : Nat) (cur : List ElHandle),k ≤ fs.length ∧ i = .int .i64 k ∧ v = .slice R cur.length c ∧ Hid (cur = selTo (fun x => !isH h x) fs k) ∧ cur.length ≤ k ∧ OwnE 2 encHandle 29 wr (w.heap.size + 1) R c cur ∧ Below (w.heap.size + 1) w2 wr) (fun _ i _ => fs.length - (intOf i).toNat)
 case atStart => exact ⟨0,_,0,[],Nat.zero_le _,rfl,rfl,Lib.hid (selTo_zero _ _).symm,Nat.le_refl _,hemp,Below.refl _ _⟩
 case round =>
  clear hemp;obtain ⟨k,R,c,cur,hk,rfl,rfl,hcur,hck,hown,hb2⟩:=hrel;have hbl:=k2.trans (hb2.mono (Nat.le_succ _));have hsz:=hbl.size;have hz2:=hb2.size;by_cases hklt : k < fs.length
  ·have k1 : decide ((k : Int) < (fs.length : Int)) = true:=by simp [hklt]
   have k1b : decide (k < fs.length) = true:=by simp [hklt]
   go_wp2_with fail
   refine (specFollowersValid_any A cap B fs wr (hr.below (hbl.mono hB)) (Nat.le_trans hB hsz) (by omega) (fv_sz HV.out)).mono ?_;rintro e w3 ⟨rfl,b3⟩;rw [HV.out];have hbl3:=hbl.trans (b3.mono hsz);have hb3 : Below (w.heap.size + 1) w2 w3:=hb2.trans (b3.mono (by omega));have hown3:=Own.below hown b3;have hs3:=hbl3.size;clear b3 hown hbl hb2;have g0:=(hb3.cell (p:=⟨w.heap.size,0,none⟩) (by show w.heap.size < w.heap.size + 1; omega)).trans e0b;have g1:=(hb3.cell (p:=⟨w.heap.size,1,none⟩) (by show w.heap.size < w.heap.size + 1; omega)).trans e1b;obtain ⟨b,off,rfl,hb,hc⟩:=(hr.below (hbl3.mono hB)).at_ (by omega);have c0 : w3.cell? ⟨b,off + k * 2,none⟩ = some (Value.string (gt fs k).1):=hc k 0 (by omega) (by omega);have c1 : w3.cell? ⟨b,off + k * 2 + 1,none⟩ = some (Value.string (gt fs k).2):=hc k 1 (by omega) (by omega);clear hc;have hneq:=fun w' => neq_Handle (gt fs k).1 (gt fs k).2 h.1 h.2 w'
   have hgd:=guard_Handle;cases hq : isH h (gt fs k)
   ·have hn : eqEl (α:=ElHandle) ((gt fs k).1,(gt fs k).2) (h.1,h.2) = false:=hq
    have HN:=Lib.hid (selTo_is (p:=fun x => !isH h x) hklt (show (!isH h (gt fs k)) = true by rw [hq]; rfl));clear hq
    go_wp2_with fail
    go_quiet (fail)
    obtain ⟨W5,hW5⟩ : ∃ W5,W5 = w3.drewN nq:=⟨_,rfl⟩;have hb5 : Below (w.heap.size + 1) w2 W5:=by rw [hW5]; exact below_drewN hb3 _
    have hown5 : OwnE 2 encHandle 29 W5 (w.heap.size + 1) R c cur:=by rw [hW5]; exact Own.drewN hown3 _
    have hz5 : w.heap.size + 1 ≤ W5.heap.size:=by have:=hb5.size; omega
    have p0 : W5.cell? ⟨b,off + k * 2,none⟩ = some (Value.string (gt fs k).1):=by rw [hW5]; exact c0
    have p1 : W5.cell? ⟨b,off + k * 2 + 1,none⟩ = some (Value.string (gt fs k).2):=by rw [hW5]; exact c1
    rw [← hW5];clear hW5 hn hneq hb3 hown3 c0 c1 g0 g1
    go_wp2_with (at_builtin; refine wpList_app rfl (.tmp 25) (.tmp 30) _ rfl (w.heap.size + 1) 29 _ 2 32 Tryz.underlying31 info_Handle rfl (by omega) R (some ⟨W5.heap.size,0,none⟩) cur.length c 1 1 (W5.heap.size + 1) (cE 2 encHandle cur) (encHandle (gt fs k)) rfl rfl (Own.below hown5 ((Below.refl _ _).alloc (Nat.le_refl _) _)) (rd_elem _ _ _ _ (fun j hj => by rcases (by omega : j = 0 ∨ j = 1) with rfl | rfl <;> rfl)) (fun _ _ => encHandle_one _ _) (by simp only [maxLen]; omega) (by omega) (by first | omega | (simp; omega)) ?_; intro T1 cap1 w6 hown6 hg6)
    go_roundw
    case rel => exact ⟨k + 1,T1,cap1,cur ++ [(gt fs k)],by omega,by go_num,by rw [List.length_append]; rfl,Lib.hid (by rw [HN.out,← hcur.out]),by rw [List.length_append]; simp; omega,OwnE.snoc (by omega) hown6,(hb5.alloc hz5 _).trans (grown_below hg6 (fun b hb => (Own.lt hown5 hb).1) (by first | omega | (simp; omega)))⟩
    case measure => simp [intOf]; omega
   ·have hn : eqEl (α:=ElHandle) ((gt fs k).1,(gt fs k).2) (h.1,h.2) = true:=hq
    have HN:=Lib.hid (selTo_not (p:=fun x => !isH h x) hklt (show (!isH h (gt fs k)) = false by rw [hq]; rfl));clear hq
    go_wp2_with fail
    go_quiet (fail)
    go_wp2_with fail
    go_roundw
    case rel => exact ⟨k + 1,R,c,cur,by omega,by go_num,rfl,Lib.hid (by rw [HN.out,← hcur.out]),by omega,Own.drewN hown3 _,below_drewN hb3 _⟩
    case measure => simp [intOf]; omega
  ·obtain rfl : k = fs.length:=by omega
   have hfin : cur = ufOf fs h:=by rw [hcur.out]; rw [selTo_all]; rfl
   clear hcur
   go_wp2_with fail
   refine (specFollowersValid_any A cap B fs wr (hr.below (hbl.mono hB)) (Nat.le_trans hB hsz) (by omega) (fv_sz HV.out)).mono ?_;rintro e w3 ⟨rfl,b3⟩;rw [HV.out];have hown3:=Own.below hown b3;cases hq : ufOk fs h
   ·have gq : decide ((cur.length : Int) < (fs.length : Int)) = false:=by
       unfold ufOk at hq;rw [← hfin] at hq;have:=of_decide_eq_false hq;exact decide_eq_false (by omega)
    clear hq
    go_wp2_with fail
    go_ret2;subst hfin;exact ⟨R,c,rfl,Own.more hown3 (Nat.le_succ _),hbl.trans (b3.mono hsz)⟩
   ·have gq : decide ((cur.length : Int) < (fs.length : Int)) = true:=by
       unfold ufOk at hq;rw [← hfin] at hq;have:=of_decide_eq_true hq;exact decide_eq_true (by omega)
    clear hq
    go_wp2_with fail
    go_ret2;subst hfin;exact ⟨R,c,rfl,Own.more hown3 (Nat.le_succ _),hbl.trans (b3.mono hsz)⟩
end Go.Proofs.YtfnmlffpnmmcdaaGreatDoor
namespace Go.Proofs.YtfnmlffpnmmcdaaGreatDoor
set_option maxRecDepth 100000
open Go.RowKit
theorem elem_kept {α : Type} {sz : Nat} {enc : α → Nat → Value} {w w' : World} {row : Option Nat} {y : α} (b : Nat) (hg : w.grownBy w' row) (hb : b < w.heap.size) (hne : row = none ∨ some b ≠ row)
    (hc : ∀ j,j < sz → w.cell? ⟨b,j,none⟩ = some (enc y j)) : Rd w' (b + 1) sz (some ⟨b,0,none⟩) 1 (enc y):=fun _ =>
 ⟨b,0,rfl,by omega,fun j hj => by
  rw [Nat.zero_add,hg.cell_far _ hb (by
   rcases hne with h | h
   ·subst h; exact fun e => nomatch e
   ·exact h)]
  exact hc j (by omega)⟩
end Go.Proofs.YtfnmlffpnmmcdaaGreatDoor
