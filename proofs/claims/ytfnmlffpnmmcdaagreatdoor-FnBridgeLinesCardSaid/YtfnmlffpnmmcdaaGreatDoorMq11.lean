/- Parts of the proof, merged: DrawFans Bridge DrawBridge Call DrawBl StrS SameBr BlsPlain MB BlsA Late. -/
import Derived.Test.YtfnmlffpnmmcdaaGreatDoorMq10
import Derived.Test.YtfnmlffpnmmcdaaGreatDoorMq8
import Derived.Test.YtfnmlffpnmmcdaaGreatDoorMq3
import Derived.Test.YtfnmlffpnmmcdaaGreatDoorMq4
import Derived.Deep.Cut
import Derived.Deep.RegionHeld3
import Derived.Test.YtfnmlffpnmmcdaaGreatDoorMq6
import Derived.Test.YtfnmlffpnmmcdaaGreatDoorMq9
import Derived.Test.YtfnmlffpnmmcdaaGreatDoorMq5
namespace Go.Proofs.YtfnmlffpnmmcdaaGreatDoor
set_option maxRecDepth 100000
open Go.RowKit
theorem folOf_sz9 {fs : List ElHandle} {h : ElHandle} (hf : ∀ x ∈ fs,x.1.size ≤ 9 ∧ x.2.size ≤ 9) (hh : h.1.size ≤ 9 ∧ h.2.size ≤ 9) : ∀ x ∈ folOf fs h,x.1.size ≤ 9 ∧ x.2.size ≤ 9:=fun x hx => by
 rcases folOf_mem hx with k | rfl
 ·exact hf x k
 ·exact hh
theorem sz9 {s : ByteArray} (h : s.size ≤ 9) : s.size ≤ maxLen:=by simp only [maxLen]; omega
theorem szH_max {xs : List ElHandle} (h : ∀ x ∈ xs,x.1.size ≤ 9 ∧ x.2.size ≤ 9) : ∀ k,k < xs.length → (gt xs k).1.size ≤ maxLen ∧ (gt xs k).2.size ≤ maxLen:=fun _k hk =>
 have q:=h _ (gt_mem hk); ⟨sz9 q.1,sz9 q.2⟩
theorem add_szH {xs : List ElHandle} (h : ∀ x ∈ xs,x.1.size ≤ 9 ∧ x.2.size ≤ 9) {y : ElHandle} (hy : y.1.size ≤ 9 ∧ y.2.size ≤ 9) : ∀ x ∈ xs ++ [y],x.1.size ≤ 9 ∧ x.2.size ≤ 9:=fun x hx => (List.mem_append.1 hx).elim (h x) (fun e => by rw [List.mem_singleton] at e; subst e; exact hy)
def DrewFs (g m : Nat) (w : World) (e : Ending) (w' : World) : Prop:=∃ (A : Option Addr) (cap : Nat) (xs : List ElHandle),e = .returned (.slice A xs.length cap) ∧ xs.length ≤ 6 ∧ (∀ x ∈ xs,x.1.size ≤ 9 ∧ x.2.size ≤ 9) ∧ OwnE 2 encHandle 29 w' w.heap.size A cap xs ∧ Rdr w' g m ∧ w.grownBy w' (some g)
set_option maxHeartbeats 1600000 in
theorem l20Fans_any (g m : Nat) (n : Int) (w : World) (h : Rdr w g m) (hm : m ≤ 800000) (hn : 0 ≤ n) (hn2 : n ≤ 1000000) :
    Calls Tryz.prog 112 #[.pointer (some ⟨g,0,none⟩),.int .i64 n] w (DrewFs g (m + 40) w):=by
 have hlt:=h.lt;go_enter Tryz.func112,Tryz.ntmps112
 go_wp2_with fail
 refine (pick_any g m _ _ (h.alloc _) (by omega)).mono ?_;rintro e w1 ⟨y,rfl,hy0,hy1,hr1,hg1⟩;obtain ⟨y0,rfl⟩:=Int.eq_ofNat_of_zero_le hy0;have hyb : y0 ≤ 5:=by omega
 have ho1 : OwnE 2 encHandle 29 w1 w.heap.size (some ⟨w.heap.size,0,none⟩) 0 ([] : List ElHandle):=keptH (xs:=[]) (Own.lit w 29 2 0 #[] (cE 2 encHandle ([] : List ElHandle)) (Nat.zero_le _) rfl) hg1 hlt;have hw1:=(only_alloc w (some g) (World.grownBy.refl _ _) _).trans hg1;clear hy0 hy1 hg1
 go_wp2_with fail
 go_loopw [5,6,7,8] (fun v i _ _ wr => ∃ (c y : Nat) (T : Option Addr) (cap : Nat) (cur : List ElHandle),c + y ≤ 5 ∧ i = .int .i64 y ∧ v = .slice T cur.length cap ∧ cur.length ≤ c ∧ Hid (∀ x ∈ cur,x.1.size ≤ 9 ∧ x.2.size ≤ 9) ∧ OwnE 2 encHandle 29 wr w.heap.size T cap cur ∧ Rdr wr g (m + 1 + 6 * c) ∧ w.grownBy wr (some g)) (fun _ i _ _ _ => (intOf i).toNat)
 case atStart => exact ⟨0,y0,_,0,[],by omega,rfl,rfl,by simp,Lib.hid (fun x hx => by cases hx),ho1,hr1,hw1⟩
 case round =>
  obtain ⟨c,y,T,cap,cur,hcy,rfl,rfl,hcl,HC,hown,hr,hw⟩:=hrel;clear ho1 hr1 hw1;have hsz:=hw.size;by_cases hlt2 : 0 < y
  ·obtain ⟨y,rfl⟩ : ∃ z,y = z + 1:=⟨y - 1,by omega⟩
   have hd : decide (0 < ((y + 1 : Nat) : Int)) = true:=decide_eq_true (by omega)
   go_wp2_with fail
   refine (l20Handle_any g _ _ _ hr (by omega) (by omega) (by omega)).mono ?_;rintro e w5 ⟨p,rfl,hp0,hp1,hr5,hg5⟩;have hown5:=keptH hown hg5 hlt;have hw5:=hw.trans hg5;have hs5:=hw5.size;have HS5:=Lib.hid (folOf_sz9 HC.out (h:=p) ⟨hp0,hp1⟩);have hlf:=folOf_len1 cur p;clear hown hr hw hg5
   go_wp2_with fail
   refine (specFollow_any T cap _ cur p w5 (OwnE.rd hown5) (Nat.le_refl _) (by omega) (Own.shp hown5) (szH_max HC.out) ⟨sz9 hp0,sz9 hp1⟩).mono ?_;rintro e w6 ⟨T6,c6,rfl,ho6,hb6⟩
   go_wp2_with fail
   go_roundw
   case rel => exact ⟨c + 1,y,T6,c6,_,by omega,by go_num,rfl,by omega,HS5,Own.more ho6 hs5,(hr5.below hb6 (by omega)).more (by omega),only_below hw5 hb6 hs5⟩
   case measure => first | (simp [intOf]; done) | (simp [intOf]; omega)
  ·have hd : decide (0 < (y : Int)) = false:=decide_eq_false (by omega)
   go_wp2_with fail
   refine (odd_any g _ _ _ hr (by omega) hn hn2).mono ?_;rintro e w2 ⟨q,rfl,hr2,hg2⟩;have hown2:=keptH hown hg2 hlt;have hw2:=hw.trans hg2;have hs2:=hw2.size;clear hown hr hw hg2 hd;cases q
   ·go_wp2_with fail
    go_ret;exact ⟨T,cap,cur,rfl,by omega,HC.out,hown2,hr2.more (by omega),hw2⟩
   ·by_cases h0 : 0 < cur.length
    ·have d0 : decide (0 < (cur.length : Int)) = true:=decide_eq_true (by omega)
     have d0n : decide (0 < cur.length) = true:=decide_eq_true h0
     go_wp2_with fail
     refine (pick_any g _ _ _ hr2 (by omega)).mono ?_;rintro e w3 ⟨z,rfl,hz0,hz1,hr3,hg3⟩;have hown3:=keptH hown2 hg3 hlt;have hw3:=hw2.trans hg3;have hs3:=hw3.size;clear hown2 hw2 hr2 hg3 d0 d0n;by_cases hz : z = 0
     ·have e0 : (z == 0) = true:=beq_iff_eq.2 hz
      clear hz;rcases hown3.shape with ⟨_,hq0,_⟩ | ⟨b,rfl,hbb,hbl,hcp,hmx⟩
      ·omega
      ·unfold maxLen at hmx
       have c0 : w3.cell? ⟨b,0,none⟩ = some (Value.string (gt cur 0).1):=Own.cell hown3 rfl (j:=0) (by omega);have c1 : w3.cell? ⟨b,1,none⟩ = some (Value.string (gt cur 0).2):=Own.cell hown3 rfl (j:=1) (by omega);have h0i : (0 : Int) < (cur.length : Int):=by omega
       go_wp2_with (at_builtin; refine wpList_app rfl (.tmp 35) (.tmp 39) _ rfl w.heap.size 29 _ 2 32 Tryz.underlying31 info_Handle rfl (by omega) (some ⟨b,0,none⟩) (some ⟨w3.heap.size,0,none⟩) cur.length cap 1 1 (w3.heap.size + 1) (cE 2 encHandle cur) (encHandle (gt cur 0)) rfl rfl (Own.below hown3 ((Below.refl _ _).alloc (Nat.le_refl _) _)) (rd_elem _ _ _ _ (fun j hj => by rcases (by omega : j = 0 ∨ j = 1) with rfl | rfl <;> rfl)) (fun _ _ => encHandle_one _ _) (by simp only [maxLen]; omega) (by omega) (by first | omega | (simp; done) | (simp; omega)) ?_; intro T8 cap8 w8 hown8 hg8)
       go_ret;exact ⟨T8,cap8,cur ++ [(gt cur 0)],by rw [List.length_append]; rfl,by rw [List.length_append,List.length_singleton]; omega,add_szH HC.out (HC.out _ (gt_mem h0)),OwnE.snoc (by omega) hown8,(hr3.below (((Below.refl _ _).alloc hs3 _).trans (grown_below hg8 (fun b hb => (Own.lt hown3 hb).1) (by first | omega | (simp; done) | (simp; omega)))) hlt).more (by omega),only_below hw3 (((Below.refl _ _).alloc hs3 _).trans (grown_below hg8 (fun b hb => (Own.lt hown3 hb).1) (by first | omega | (simp; done) | (simp; omega)))) (Nat.le_refl _)⟩
     ·have e0 : (z == 0) = false:=beq_eq_false_iff_ne.2 hz
      clear hz
      go_wp2_with (at_builtin; refine wpList_app rfl (.tmp 41) (.tmp 43) _ rfl w.heap.size 29 _ 2 32 Tryz.underlying31 info_Handle rfl (by omega) T (some ⟨w3.heap.size,0,none⟩) cur.length cap 1 1 (w3.heap.size + 1) (cE 2 encHandle cur) (encHandle ({ data:=#[122] },{ data:=#[] })) rfl rfl (Own.below hown3 ((Below.refl _ _).alloc (Nat.le_refl _) _)) (rd_elem _ _ _ _ (fun j hj => by rcases (by omega : j = 0 ∨ j = 1) with rfl | rfl <;> rfl)) (fun _ _ => encHandle_one _ _) (by simp only [maxLen]; omega) (by omega) (by first | omega | (simp; done) | (simp; omega)) ?_; intro T8 cap8 w8 hown8 hg8)
      go_ret;exact ⟨T8,cap8,cur ++ [({ data:=#[122] },{ data:=#[] })],by rw [List.length_append]; rfl,by rw [List.length_append,List.length_singleton]; omega,add_szH HC.out ⟨by decide,by decide⟩,OwnE.snoc (by omega) hown8,(hr3.below (((Below.refl _ _).alloc hs3 _).trans (grown_below hg8 (fun b hb => (Own.lt hown3 hb).1) (by first | omega | (simp; done) | (simp; omega)))) hlt).more (by omega),only_below hw3 (((Below.refl _ _).alloc hs3 _).trans (grown_below hg8 (fun b hb => (Own.lt hown3 hb).1) (by first | omega | (simp; done) | (simp; omega)))) (Nat.le_refl _)⟩
    ·have d0 : decide (0 < (cur.length : Int)) = false:=decide_eq_false (by omega)
     have d0n : decide (0 < cur.length) = false:=decide_eq_false h0
     go_wp2_with (at_builtin; refine wpList_app rfl (.tmp 41) (.tmp 43) _ rfl w.heap.size 29 _ 2 32 Tryz.underlying31 info_Handle rfl (by omega) T (some ⟨w2.heap.size,0,none⟩) cur.length cap 1 1 (w2.heap.size + 1) (cE 2 encHandle cur) (encHandle ({ data:=#[122] },{ data:=#[] })) rfl rfl (Own.below hown2 ((Below.refl _ _).alloc (Nat.le_refl _) _)) (rd_elem _ _ _ _ (fun j hj => by rcases (by omega : j = 0 ∨ j = 1) with rfl | rfl <;> rfl)) (fun _ _ => encHandle_one _ _) (by simp only [maxLen]; omega) (by omega) (by first | omega | (simp; done) | (simp; omega)) ?_; intro T8 cap8 w8 hown8 hg8)
     go_ret;exact ⟨T8,cap8,cur ++ [({ data:=#[122] },{ data:=#[] })],by rw [List.length_append]; rfl,by rw [List.length_append,List.length_singleton]; omega,add_szH HC.out ⟨by decide,by decide⟩,OwnE.snoc (by omega) hown8,(hr2.below (((Below.refl _ _).alloc hs2 _).trans (grown_below hg8 (fun b hb => (Own.lt hown2 hb).1) (by first | omega | (simp; done) | (simp; omega)))) hlt).more (by omega),only_below hw2 (((Below.refl _ _).alloc hs2 _).trans (grown_below hg8 (fun b hb => (Own.lt hown2 hb).1) (by first | omega | (simp; done) | (simp; omega)))) (Nat.le_refl _)⟩
theorem set_grown (w : World) (b o : Nat) (u : Value) : w.grownBy (w.setCell ⟨b,o,none⟩ u) (some b) :=
 ⟨rfl,rfl,rfl,by simp,fun i _ hne => Below.heap_setCell w ⟨b,o,none⟩ u i (fun e => hne (by rw [e]))⟩
theorem own_set {w : World} {base e sz n cap : Nat} {A : Option Addr} {f : Nat → Value} (h : Own w base e sz A n cap f) (b o : Nat) (u : Value) (hb : b < base) : Own (w.setCell ⟨b,o,none⟩ u) base e sz A n cap f :=
 Own.kept h (set_grown w b o u) (by
  cases hA : blk A with
  | none => exact .inl rfl
  | some c => exact .inr (fun e => by injection e with e; have:=(Own.lt h hA).1; omega))
def zBr : Nat → Value
 | 0 => Value.string { data:=#[] }
 | 1 => Value.string { data:=#[] }
 | 2 => Value.slice none 0 0
 | 3 => Value.slice none 0 0
 | _ => Value.int .i64 0
def DrewBr (g m : Nat) (w : World) (e : Ending) (w' : World) : Prop:=∃ (who : ElHandle) (I : Option Addr) (ci : Nat) (is : List ElItem) (F : Option Addr) (cf : Nat) (fs : List ElHandle) (nx : Int),e = .returned (.agg #[.string who.1,.string who.2,.slice I is.length ci,.slice F fs.length cf,.int .i64 nx]) ∧ (who.1.size ≤ 9 ∧ who.2.size ≤ 9) ∧ (is.length ≤ 7 ∧ ∀ x ∈ is,x.1.size ≤ 81 ∧ x.2.1.size ≤ 81 ∧ x.2.2.1.size ≤ 81) ∧ (fs.length ≤ 6 ∧ ∀ x ∈ fs,x.1.size ≤ 9 ∧ x.2.size ≤ 9) ∧ (-1 ≤ nx ∧ nx ≤ 1000001) ∧ OwnE 4 encItem 69 w' w.heap.size I ci is ∧ OwnE 2 encHandle 29 w' w.heap.size F cf fs ∧ Rdr w' g m ∧ w.grownBy w' (some g)
def brF (who : ElHandle) (A C : Value) (nx : Int) : Nat → Value
 | 0 => Value.string who.1
 | 1 => Value.string who.2
 | 2 => A
 | 3 => C
 | _ => Value.int .i64 nx
theorem keptB {sz e base g cap n : Nat} {w w' : World} {A : Option Addr} {f : Nat → Value} (h : Own w base e sz A n cap f) (hg : w.grownBy w' (some g)) (hlt : g < base) : Own w' base e sz A n cap f :=
 Own.kept h hg (by
  cases hA : blk A with
  | none => exact .inl rfl
  | some b => exact .inr (fun e => by injection e with e; have:=(Own.lt h hA).1; omega))
set_option maxHeartbeats 3200000 in
theorem l20Bridge_any (g m : Nat) (n : Int) (w : World) (h : Rdr w g m) (hm : m ≤ 700000) (hn : 0 ≤ n) (hn2 : n ≤ 1000000) :
    Calls Tryz.prog 62 #[.pointer (some ⟨g,0,none⟩),.int .i64 n] w (DrewBr g (m + 250) w):=by
 have hlt:=h.lt;have oR : Own (w.alloc (.cells #[.string { data:=#[] },.string { data:=#[] },.slice none 0 0,.slice none 0 0,.int .i64 0] 33)) w.heap.size 33 5 (some ⟨w.heap.size,0,none⟩) 1 1 zBr:=Own.lit w 33 5 1 #[.string { data:=#[] },.string { data:=#[] },.slice none 0 0,.slice none 0 0,.int .i64 0] zBr (by simp only [maxLen]; omega) rfl;have hgA:=only_alloc w (some g) (World.grownBy.refl _ _) (.cells #[.string { data:=#[] },.string { data:=#[] },.slice none 0 0,.slice none 0 0,.int .i64 0] 33);have hrA:=h.alloc (.cells #[.string { data:=#[] },.string { data:=#[] },.slice none 0 0,.slice none 0 0,.int .i64 0] 33);have hzA : w.heap.size < (w.alloc (.cells #[.string { data:=#[] },.string { data:=#[] },.slice none 0 0,.slice none 0 0,.int .i64 0] 33)).heap.size:=by simp
 go_enter Tryz.func62,Tryz.ntmps62
 go_wp2_with fail
 generalize (w.alloc (.cells #[.string { data:=#[] },.string { data:=#[] },.slice none 0 0,.slice none 0 0,.int .i64 0] 33)) = wA at *
 refine (l20Handle_any g m _ _ hrA (by omega) (by omega) (by omega)).mono ?_;rintro e w1 ⟨who,rfl,hw0,hw1,hr1,hg1⟩;have hgw1:=hgA.trans hg1;have hs1:=hg1.size
 go_wp2_with fail
 refine (l20Feed_any g _ _ _ hr1 (by omega) (by omega) (by omega)).mono ?_;rintro e w2 ⟨I,ci,is,rfl,hil,hiz,oI,hr2,hg2⟩;have HIZ:=Lib.hid hiz;clear hiz;have hgw2:=hgw1.trans hg2;have hs2:=hg2.size
 go_wp2_with fail
 refine (l20Fans_any g _ _ _ hr2 (by omega) (by omega) (by omega)).mono ?_;rintro e w3 ⟨F,cf,fs,rfl,hfl,hfz,oF,hr3,hg3⟩;have HFZ:=Lib.hid hfz;clear hfz;have hgw3:=hgw2.trans hg3;have hs3:=hg3.size;have oI3:=keptI oI hg3 (by omega)
 go_wp2_with fail
 refine (pick_any g _ _ _ hr3 (by omega)).mono ?_;rintro e w4 ⟨x,rfl,hx0,hx1,hr4,hg4⟩;have hx2 : x ≤ 1000000:=by omega
 have hgw4:=hgw3.trans hg4;have hs4:=hg4.size;have oR4:=keptB (keptB (keptB (keptB oR hg1 hlt) hg2 hlt) hg3 hlt) hg4 hlt;have oI4:=Own.more (base':=w.heap.size + 1) (keptI oI3 hg4 (by omega)) (by omega);have oF4:=Own.more (base':=w.heap.size + 1) (keptH oF hg4 (by omega)) (by omega);clear oI oI3 oF oR hg1 hg2 hg3 hg4 hr1 hr2 hr3 hgw1 hgw2 hgw3 hgA hrA hx1;have hrT:=hr4.alloc (.cells #[.int .i64 x,.int .i64 1000000] 3);have oRT:=Own.below oR4 ((Below.refl _ _).alloc (Nat.le_refl _) (.cells #[.int .i64 x,.int .i64 1000000] 3));have oIT:=Own.below oI4 ((Below.refl _ _).alloc (Nat.le_refl _) (.cells #[.int .i64 x,.int .i64 1000000] 3));have oFT:=Own.below oF4 ((Below.refl _ _).alloc (Nat.le_refl _) (.cells #[.int .i64 x,.int .i64 1000000] 3));have hgT:=only_alloc w (some g) hgw4 (.cells #[.int .i64 x,.int .i64 1000000] 3);have hzT : w4.heap.size < (w4.alloc (.cells #[.int .i64 x,.int .i64 1000000] 3)).heap.size:=by simp
 go_wp2_with fail
 refine (pick_any g _ _ _ hrT (by omega)).mono ?_;rintro e w5 ⟨y,rfl,hy0,hy1,hr5,hg5⟩;have hy2 : y ≤ 13:=by omega
 have htab:=tab_cell hg5 (by omega);obtain ⟨z,hz,hyz⟩ : ∃ z : Nat,z < 2 ∧ y / 13 = (z : Int):=⟨(y / 13).toNat,by omega,by omega⟩;obtain ⟨nx,hnx0,hnx1,hcx⟩ : ∃ nx : Int,-1 ≤ nx ∧ nx ≤ 1000001 ∧ w5.cell? ⟨w4.heap.size,z,none⟩ = some (.int .i64 nx):=by
  rw [htab z]
  match z,hz with
  | 0,_ => exact ⟨x,by omega,by omega,rfl⟩
  | 1,_ => exact ⟨1000000,by omega,by omega,rfl⟩
 have oR5:=keptB oRT hg5 hlt;have oI5:=keptI oIT hg5 (by omega);have oF5:=keptH oFT hg5 (by omega);have hgw5:=hgT.trans hg5;have hs5:=hg5.size;have hz2 : (z : Int) < 2:=by omega
 clear htab oR4 oI4 oF4 oRT oIT oFT hgT hg5 hrT hr4 hgw4;have o6 : Own (w5.alloc (.cells #[.string who.1,.string who.2,.slice I is.length ci,.slice F fs.length cf,.int .i64 nx] 33)) (w.heap.size + 1) 33 5 (some ⟨w5.heap.size,0,none⟩) 1 1 (brF who (Value.slice I is.length ci) (Value.slice F fs.length cf) nx):=Own.more (Own.lit w5 33 5 1 #[Value.string who.1,Value.string who.2,Value.slice I is.length ci,Value.slice F fs.length cf,Value.int .i64 nx] (brF who (Value.slice I is.length ci) (Value.slice F fs.length cf) nx) (by simp only [maxLen]; omega) rfl) (by omega);have oR6:=Own.below oR5 ((Below.refl _ _).alloc (Nat.le_refl _) (.cells #[.string who.1,.string who.2,.slice I is.length ci,.slice F fs.length cf,.int .i64 nx] 33));have oI6:=Own.below oI5 ((Below.refl _ _).alloc (Nat.le_refl _) (.cells #[.string who.1,.string who.2,.slice I is.length ci,.slice F fs.length cf,.int .i64 nx] 33));have oF6:=Own.below oF5 ((Below.refl _ _).alloc (Nat.le_refl _) (.cells #[.string who.1,.string who.2,.slice I is.length ci,.slice F fs.length cf,.int .i64 nx] 33));have hr6:=hr5.alloc (.cells #[.string who.1,.string who.2,.slice I is.length ci,.slice F fs.length cf,.int .i64 nx] 33);have hgw6:=only_alloc w (some g) hgw5 (.cells #[.string who.1,.string who.2,.slice I is.length ci,.slice F fs.length cf,.int .i64 nx] 33)
 have HNI : Hid (blk I = none ∨ blk I ≠ some w5.heap.size):=Lib.hid (by
  cases hb : blk I with
  | none => exact .inl rfl
  | some b => exact .inr (fun e => by injection e with e; have:=(Own.lt oI5 hb).2; omega))
 have HNF : Hid (blk F = none ∨ blk F ≠ some w5.heap.size):=Lib.hid (by
  cases hb : blk F with
  | none => exact .inl rfl
  | some b => exact .inr (fun e => by injection e with e; have:=(Own.lt oF5 hb).2; omega))
 have hz6 : w5.heap.size < (w5.alloc (.cells #[.string who.1,.string who.2,.slice I is.length ci,.slice F fs.length cf,.int .i64 nx] 33)).heap.size:=by simp
 go_wp2_with fail
 clear hyz hcx;generalize (w5.alloc (.cells #[.string who.1,.string who.2,.slice I is.length ci,.slice F fs.length cf,.int .i64 nx] 33)) = w6 at *
 clear oR5 oI5 oF5 hr5 hgw5;refine (odd_any g _ _ _ hr6 (by omega) hn hn2).mono ?_;rintro e w7 ⟨q,rfl,hr7,hg7⟩;have o7:=keptB o6 hg7 (by omega);have oR7:=keptB oR6 hg7 hlt;have oI7:=keptI oI6 hg7 (by omega);have oF7:=keptH oF6 hg7 (by omega);have hgw7:=hgw6.trans hg7;have hs7:=hg7.size;clear o6 oR6 oI6 oF6 hr6 hgw6 hg7;cases q
 ·skip
  have k0 : _ = some (Value.string who.1):=o7.cell (b:=w5.heap.size) rfl (j:=0) (by omega);have kf0:=o7.frozen (b:=w5.heap.size) rfl 0;have k1 : _ = some (Value.string who.2):=o7.cell (b:=w5.heap.size) rfl (j:=1) (by omega);have kf1:=o7.frozen (b:=w5.heap.size) rfl 1;have k2 : _ = some (Value.slice I is.length ci):=o7.cell (b:=w5.heap.size) rfl (j:=2) (by omega);have kf2:=o7.frozen (b:=w5.heap.size) rfl 2;have k3 : _ = some (Value.slice F fs.length cf):=o7.cell (b:=w5.heap.size) rfl (j:=3) (by omega);have kf3:=o7.frozen (b:=w5.heap.size) rfl 3;have k4 : _ = some (Value.int .i64 nx):=o7.cell (b:=w5.heap.size) rfl (j:=4) (by omega);have kf4:=o7.frozen (b:=w5.heap.size) rfl 4;have r0 : _ = some (Value.string { data:=#[] }):=oR7.cell (b:=w.heap.size) rfl (j:=0) (by omega);have rf0:=oR7.frozen (b:=w.heap.size) rfl 0;have r1 : _ = some (Value.string { data:=#[] }):=oR7.cell (b:=w.heap.size) rfl (j:=1) (by omega);have rf1:=oR7.frozen (b:=w.heap.size) rfl 1;have r2 : _ = some (Value.slice none 0 0):=oR7.cell (b:=w.heap.size) rfl (j:=2) (by omega);have rf2:=oR7.frozen (b:=w.heap.size) rfl 2;have r3 : _ = some (Value.slice none 0 0):=oR7.cell (b:=w.heap.size) rfl (j:=3) (by omega);have rf3:=oR7.frozen (b:=w.heap.size) rfl 3;have r4 : _ = some (Value.int .i64 0):=oR7.cell (b:=w.heap.size) rfl (j:=4) (by omega);have rf4:=oR7.frozen (b:=w.heap.size) rfl 4;have hbF : Below w.heap.size w7 (((((w7.setCell ⟨w.heap.size,0,none⟩ (Value.string who.1)).setCell ⟨w.heap.size,1,none⟩ (Value.string who.2)).setCell ⟨w.heap.size,2,none⟩ (Value.slice I is.length ci)).setCell ⟨w.heap.size,3,none⟩ (Value.slice F fs.length cf)).setCell ⟨w.heap.size,4,none⟩ (Value.int .i64 nx)):=((((((Below.refl w.heap.size w7).setCell (p:=⟨w.heap.size,0,none⟩) (Nat.le_refl _) (Value.string who.1)).setCell (p:=⟨w.heap.size,1,none⟩) (Nat.le_refl _) (Value.string who.2)).setCell (p:=⟨w.heap.size,2,none⟩) (Nat.le_refl _) (Value.slice I is.length ci)).setCell (p:=⟨w.heap.size,3,none⟩) (Nat.le_refl _) (Value.slice F fs.length cf)).setCell (p:=⟨w.heap.size,4,none⟩) (Nat.le_refl _) (Value.int .i64 nx));have hgF:=Lib.hid (only_below hgw7 hbF (Nat.le_refl _));have hrF:=Lib.hid (hr7.below hbF hlt);have G1:=Own.more (base':=w.heap.size) (own_set (own_set (own_set (own_set (own_set oI7 w.heap.size 0 (Value.string who.1) (by omega)) w.heap.size 1 (Value.string who.2) (by omega)) w.heap.size 2 (Value.slice I is.length ci) (by omega)) w.heap.size 3 (Value.slice F fs.length cf) (by omega)) w.heap.size 4 (Value.int .i64 nx) (by omega)) (by omega);have G2:=Own.more (base':=w.heap.size) (own_set (own_set (own_set (own_set (own_set oF7 w.heap.size 0 (Value.string who.1) (by omega)) w.heap.size 1 (Value.string who.2) (by omega)) w.heap.size 2 (Value.slice I is.length ci) (by omega)) w.heap.size 3 (Value.slice F fs.length cf) (by omega)) w.heap.size 4 (Value.int .i64 nx) (by omega)) (by omega);clear hbF oI7 oF7 o7 oR7
  go_wp2_with fail
  exact bodyPost_ret (v:=.agg #[.string who.1,.string who.2,.slice I is.length ci,.slice F fs.length cf,.int .i64 nx]) (by simp [results,Tryz.results62,go_sem,r0,r1,r2,r3,r4]) rfl ⟨who,I,ci,is,F,cf,fs,nx,rfl,⟨hw0,hw1⟩,⟨hil,HIZ.out⟩,⟨hfl,HFZ.out⟩,⟨hnx0,hnx1⟩,G1,G2,hrF.out.more (by omega),hgF.out⟩
 ·go_wp2_with fail
  refine (pick_any g _ _ _ hr7 (by omega)).mono ?_;rintro e w8 ⟨c,rfl,hc0,hc1,hr8,hg8⟩;have o8:=keptB o7 hg8 (by omega);have oR8:=keptB oR7 hg8 hlt;have oI8:=keptI oI7 hg8 (by omega);have oF8:=keptH oF7 hg8 (by omega);have hgw8:=hgw7.trans hg8;have hs8:=hg8.size;clear o7 oR7 oI7 oF7 hr7 hgw7 hg8;rcases (by omega : c = 0 ∨ c = 1 ∨ c = 2 ∨ c = 3) with rfl | rfl | rfl | rfl
  ·skip
   have neI : blk I = none ∨ blk I ≠ some w5.heap.size:=HNI.out;have neF : blk F = none ∨ blk F ≠ some w5.heap.size:=HNF.out;have k0 : _ = some (Value.string who.1):=o8.cell (b:=w5.heap.size) rfl (j:=0) (by omega);have kf0:=o8.frozen (b:=w5.heap.size) rfl 0;have k1 : _ = some (Value.string who.2):=o8.cell (b:=w5.heap.size) rfl (j:=1) (by omega);have kf1:=o8.frozen (b:=w5.heap.size) rfl 1;have k2 : _ = some (Value.slice I is.length ci):=o8.cell (b:=w5.heap.size) rfl (j:=2) (by omega);have kf2:=o8.frozen (b:=w5.heap.size) rfl 2;have k3 : _ = some (Value.slice F fs.length cf):=o8.cell (b:=w5.heap.size) rfl (j:=3) (by omega);have kf3:=o8.frozen (b:=w5.heap.size) rfl 3;have k4 : _ = some (Value.int .i64 nx):=o8.cell (b:=w5.heap.size) rfl (j:=4) (by omega);have kf4:=o8.frozen (b:=w5.heap.size) rfl 4;have r0 : _ = some (Value.string { data:=#[] }):=oR8.cell (b:=w.heap.size) rfl (j:=0) (by omega);have rf0:=oR8.frozen (b:=w.heap.size) rfl 0;have r1 : _ = some (Value.string { data:=#[] }):=oR8.cell (b:=w.heap.size) rfl (j:=1) (by omega);have rf1:=oR8.frozen (b:=w.heap.size) rfl 1;have r2 : _ = some (Value.slice none 0 0):=oR8.cell (b:=w.heap.size) rfl (j:=2) (by omega);have rf2:=oR8.frozen (b:=w.heap.size) rfl 2;have r3 : _ = some (Value.slice none 0 0):=oR8.cell (b:=w.heap.size) rfl (j:=3) (by omega);have rf3:=oR8.frozen (b:=w.heap.size) rfl 3;have r4 : _ = some (Value.int .i64 0):=oR8.cell (b:=w.heap.size) rfl (j:=4) (by omega);have rf4:=oR8.frozen (b:=w.heap.size) rfl 4;have hbF : Below w.heap.size w8 (((((((w8.setCell ⟨w5.heap.size,0,none⟩ (Value.string { data:=#[] })).setCell ⟨w5.heap.size,1,none⟩ (Value.string { data:=#[] })).setCell ⟨w.heap.size,0,none⟩ (Value.string { data:=#[] })).setCell ⟨w.heap.size,1,none⟩ (Value.string { data:=#[] })).setCell ⟨w.heap.size,2,none⟩ (Value.slice I is.length ci)).setCell ⟨w.heap.size,3,none⟩ (Value.slice F fs.length cf)).setCell ⟨w.heap.size,4,none⟩ (Value.int .i64 nx)):=((((((((Below.refl w.heap.size w8).setCell (p:=⟨w5.heap.size,0,none⟩) (by show w.heap.size ≤ w5.heap.size; omega) (Value.string { data:=#[] })).setCell (p:=⟨w5.heap.size,1,none⟩) (by show w.heap.size ≤ w5.heap.size; omega) (Value.string { data:=#[] })).setCell (p:=⟨w.heap.size,0,none⟩) (Nat.le_refl _) (Value.string { data:=#[] })).setCell (p:=⟨w.heap.size,1,none⟩) (Nat.le_refl _) (Value.string { data:=#[] })).setCell (p:=⟨w.heap.size,2,none⟩) (Nat.le_refl _) (Value.slice I is.length ci)).setCell (p:=⟨w.heap.size,3,none⟩) (Nat.le_refl _) (Value.slice F fs.length cf)).setCell (p:=⟨w.heap.size,4,none⟩) (Nat.le_refl _) (Value.int .i64 nx));have hgF:=Lib.hid (only_below hgw8 hbF (Nat.le_refl _));have hrF:=Lib.hid (hr8.below hbF hlt);have G1:=Own.more (base':=w.heap.size) (own_set (own_set (own_set (own_set (own_set (Own.kept (Own.kept oI8 (set_grown _ w5.heap.size 0 (Value.string { data:=#[] })) neI) (set_grown _ w5.heap.size 1 (Value.string { data:=#[] })) neI) w.heap.size 0 (Value.string { data:=#[] }) (by omega)) w.heap.size 1 (Value.string { data:=#[] }) (by omega)) w.heap.size 2 (Value.slice I is.length ci) (by omega)) w.heap.size 3 (Value.slice F fs.length cf) (by omega)) w.heap.size 4 (Value.int .i64 nx) (by omega)) (by omega);have G2:=Own.more (base':=w.heap.size) (own_set (own_set (own_set (own_set (own_set (Own.kept (Own.kept oF8 (set_grown _ w5.heap.size 0 (Value.string { data:=#[] })) neF) (set_grown _ w5.heap.size 1 (Value.string { data:=#[] })) neF) w.heap.size 0 (Value.string { data:=#[] }) (by omega)) w.heap.size 1 (Value.string { data:=#[] }) (by omega)) w.heap.size 2 (Value.slice I is.length ci) (by omega)) w.heap.size 3 (Value.slice F fs.length cf) (by omega)) w.heap.size 4 (Value.int .i64 nx) (by omega)) (by omega);clear hbF oI8 oF8 o8 oR8
   go_wp2_with fail
   exact bodyPost_ret (v:=.agg #[.string (({ data:=#[] },{ data:=#[] }) : ElHandle).1,.string (({ data:=#[] },{ data:=#[] }) : ElHandle).2,.slice I is.length ci,.slice F fs.length cf,.int .i64 nx]) (by simp [results,Tryz.results62,go_sem,r0,r1,r2,r3,r4]) rfl ⟨(({ data:=#[] },{ data:=#[] }) : ElHandle),I,ci,is,F,cf,fs,nx,rfl,⟨by decide,by decide⟩,⟨hil,HIZ.out⟩,⟨hfl,HFZ.out⟩,⟨hnx0,hnx1⟩,G1,G2,hrF.out.more (by omega),hgF.out⟩
  ·go_wp2_with fail
   refine (l20Feed_any g _ _ _ hr8 (by omega) (by omega) (by omega)).mono ?_;rintro e w9 ⟨I2,ci2,is2,rfl,hil2,hiz2,oI2,hr9,hg9⟩;have HIZ2:=Lib.hid hiz2;clear hiz2;have o9:=keptB o8 hg9 (by omega);have oR9:=keptB oR8 hg9 hlt;have oF9:=keptH oF8 hg9 (by omega);have hgw9:=hgw8.trans hg9;have hs9:=hg9.size;have oI9:=Own.more (base':=w.heap.size + 1) oI2 (by omega);have neF : blk F = none ∨ blk F ≠ some w5.heap.size:=HNF.out;have neI : blk I2 = none ∨ blk I2 ≠ some w5.heap.size:=by
    cases hb : blk I2 with
    | none => exact .inl rfl
    | some b => exact .inr (fun e => by injection e with e; have:=(Own.lt oI2 hb).1; omega)
   clear o8 oR8 oI8 oF8 hr8 hgw8 hg9 oI2;have k0 : _ = some (Value.string who.1):=o9.cell (b:=w5.heap.size) rfl (j:=0) (by omega);have kf0:=o9.frozen (b:=w5.heap.size) rfl 0;have k1 : _ = some (Value.string who.2):=o9.cell (b:=w5.heap.size) rfl (j:=1) (by omega);have kf1:=o9.frozen (b:=w5.heap.size) rfl 1;have k2 : _ = some (Value.slice I is.length ci):=o9.cell (b:=w5.heap.size) rfl (j:=2) (by omega);have kf2:=o9.frozen (b:=w5.heap.size) rfl 2;have k3 : _ = some (Value.slice F fs.length cf):=o9.cell (b:=w5.heap.size) rfl (j:=3) (by omega);have kf3:=o9.frozen (b:=w5.heap.size) rfl 3;have k4 : _ = some (Value.int .i64 nx):=o9.cell (b:=w5.heap.size) rfl (j:=4) (by omega);have kf4:=o9.frozen (b:=w5.heap.size) rfl 4;have r0 : _ = some (Value.string { data:=#[] }):=oR9.cell (b:=w.heap.size) rfl (j:=0) (by omega);have rf0:=oR9.frozen (b:=w.heap.size) rfl 0;have r1 : _ = some (Value.string { data:=#[] }):=oR9.cell (b:=w.heap.size) rfl (j:=1) (by omega);have rf1:=oR9.frozen (b:=w.heap.size) rfl 1;have r2 : _ = some (Value.slice none 0 0):=oR9.cell (b:=w.heap.size) rfl (j:=2) (by omega);have rf2:=oR9.frozen (b:=w.heap.size) rfl 2;have r3 : _ = some (Value.slice none 0 0):=oR9.cell (b:=w.heap.size) rfl (j:=3) (by omega);have rf3:=oR9.frozen (b:=w.heap.size) rfl 3;have r4 : _ = some (Value.int .i64 0):=oR9.cell (b:=w.heap.size) rfl (j:=4) (by omega);have rf4:=oR9.frozen (b:=w.heap.size) rfl 4;have hbF : Below w.heap.size w9 ((((((w9.setCell ⟨w5.heap.size,2,none⟩ (Value.slice I2 is2.length ci2)).setCell ⟨w.heap.size,0,none⟩ (Value.string who.1)).setCell ⟨w.heap.size,1,none⟩ (Value.string who.2)).setCell ⟨w.heap.size,2,none⟩ (Value.slice I2 is2.length ci2)).setCell ⟨w.heap.size,3,none⟩ (Value.slice F fs.length cf)).setCell ⟨w.heap.size,4,none⟩ (Value.int .i64 nx)):=(((((((Below.refl w.heap.size w9).setCell (p:=⟨w5.heap.size,2,none⟩) (by show w.heap.size ≤ w5.heap.size; omega) (Value.slice I2 is2.length ci2)).setCell (p:=⟨w.heap.size,0,none⟩) (Nat.le_refl _) (Value.string who.1)).setCell (p:=⟨w.heap.size,1,none⟩) (Nat.le_refl _) (Value.string who.2)).setCell (p:=⟨w.heap.size,2,none⟩) (Nat.le_refl _) (Value.slice I2 is2.length ci2)).setCell (p:=⟨w.heap.size,3,none⟩) (Nat.le_refl _) (Value.slice F fs.length cf)).setCell (p:=⟨w.heap.size,4,none⟩) (Nat.le_refl _) (Value.int .i64 nx));have hgF:=Lib.hid (only_below hgw9 hbF (Nat.le_refl _));have hrF:=Lib.hid (hr9.below hbF hlt);have G1:=Own.more (base':=w.heap.size) (own_set (own_set (own_set (own_set (own_set (Own.kept oI9 (set_grown _ w5.heap.size 2 (Value.slice I2 is2.length ci2)) neI) w.heap.size 0 (Value.string who.1) (by omega)) w.heap.size 1 (Value.string who.2) (by omega)) w.heap.size 2 (Value.slice I2 is2.length ci2) (by omega)) w.heap.size 3 (Value.slice F fs.length cf) (by omega)) w.heap.size 4 (Value.int .i64 nx) (by omega)) (by omega);have G2:=Own.more (base':=w.heap.size) (own_set (own_set (own_set (own_set (own_set (Own.kept oF9 (set_grown _ w5.heap.size 2 (Value.slice I2 is2.length ci2)) neF) w.heap.size 0 (Value.string who.1) (by omega)) w.heap.size 1 (Value.string who.2) (by omega)) w.heap.size 2 (Value.slice I2 is2.length ci2) (by omega)) w.heap.size 3 (Value.slice F fs.length cf) (by omega)) w.heap.size 4 (Value.int .i64 nx) (by omega)) (by omega);clear hbF oI9 oF9 o9 oR9
   go_wp2_with fail
   exact bodyPost_ret (v:=.agg #[.string who.1,.string who.2,.slice I2 is2.length ci2,.slice F fs.length cf,.int .i64 nx]) (by simp [results,Tryz.results62,go_sem,r0,r1,r2,r3,r4]) rfl ⟨who,I2,ci2,is2,F,cf,fs,nx,rfl,⟨hw0,hw1⟩,⟨hil2,HIZ2.out⟩,⟨hfl,HFZ.out⟩,⟨hnx0,hnx1⟩,G1,G2,hrF.out.more (by omega),hgF.out⟩
  ·go_wp2_with fail
   refine (l20Fans_any g _ _ _ hr8 (by omega) (by omega) (by omega)).mono ?_;rintro e w9 ⟨F2,cf2,fs2,rfl,hfl2,hfz2,oF2,hr9,hg9⟩;have HFZ2:=Lib.hid hfz2;clear hfz2;have o9:=keptB o8 hg9 (by omega);have oR9:=keptB oR8 hg9 hlt;have oI9:=keptI oI8 hg9 (by omega);have hgw9:=hgw8.trans hg9;have hs9:=hg9.size;have oF9:=Own.more (base':=w.heap.size + 1) oF2 (by omega);have neI : blk I = none ∨ blk I ≠ some w5.heap.size:=HNI.out;have neF : blk F2 = none ∨ blk F2 ≠ some w5.heap.size:=by
    cases hb : blk F2 with
    | none => exact .inl rfl
    | some b => exact .inr (fun e => by injection e with e; have:=(Own.lt oF2 hb).1; omega)
   clear o8 oR8 oI8 oF8 hr8 hgw8 hg9 oF2;have k0 : _ = some (Value.string who.1):=o9.cell (b:=w5.heap.size) rfl (j:=0) (by omega);have kf0:=o9.frozen (b:=w5.heap.size) rfl 0;have k1 : _ = some (Value.string who.2):=o9.cell (b:=w5.heap.size) rfl (j:=1) (by omega);have kf1:=o9.frozen (b:=w5.heap.size) rfl 1;have k2 : _ = some (Value.slice I is.length ci):=o9.cell (b:=w5.heap.size) rfl (j:=2) (by omega);have kf2:=o9.frozen (b:=w5.heap.size) rfl 2;have k3 : _ = some (Value.slice F fs.length cf):=o9.cell (b:=w5.heap.size) rfl (j:=3) (by omega);have kf3:=o9.frozen (b:=w5.heap.size) rfl 3;have k4 : _ = some (Value.int .i64 nx):=o9.cell (b:=w5.heap.size) rfl (j:=4) (by omega);have kf4:=o9.frozen (b:=w5.heap.size) rfl 4;have r0 : _ = some (Value.string { data:=#[] }):=oR9.cell (b:=w.heap.size) rfl (j:=0) (by omega);have rf0:=oR9.frozen (b:=w.heap.size) rfl 0;have r1 : _ = some (Value.string { data:=#[] }):=oR9.cell (b:=w.heap.size) rfl (j:=1) (by omega);have rf1:=oR9.frozen (b:=w.heap.size) rfl 1;have r2 : _ = some (Value.slice none 0 0):=oR9.cell (b:=w.heap.size) rfl (j:=2) (by omega);have rf2:=oR9.frozen (b:=w.heap.size) rfl 2;have r3 : _ = some (Value.slice none 0 0):=oR9.cell (b:=w.heap.size) rfl (j:=3) (by omega);have rf3:=oR9.frozen (b:=w.heap.size) rfl 3;have r4 : _ = some (Value.int .i64 0):=oR9.cell (b:=w.heap.size) rfl (j:=4) (by omega);have rf4:=oR9.frozen (b:=w.heap.size) rfl 4;have hbF : Below w.heap.size w9 ((((((w9.setCell ⟨w5.heap.size,3,none⟩ (Value.slice F2 fs2.length cf2)).setCell ⟨w.heap.size,0,none⟩ (Value.string who.1)).setCell ⟨w.heap.size,1,none⟩ (Value.string who.2)).setCell ⟨w.heap.size,2,none⟩ (Value.slice I is.length ci)).setCell ⟨w.heap.size,3,none⟩ (Value.slice F2 fs2.length cf2)).setCell ⟨w.heap.size,4,none⟩ (Value.int .i64 nx)):=(((((((Below.refl w.heap.size w9).setCell (p:=⟨w5.heap.size,3,none⟩) (by show w.heap.size ≤ w5.heap.size; omega) (Value.slice F2 fs2.length cf2)).setCell (p:=⟨w.heap.size,0,none⟩) (Nat.le_refl _) (Value.string who.1)).setCell (p:=⟨w.heap.size,1,none⟩) (Nat.le_refl _) (Value.string who.2)).setCell (p:=⟨w.heap.size,2,none⟩) (Nat.le_refl _) (Value.slice I is.length ci)).setCell (p:=⟨w.heap.size,3,none⟩) (Nat.le_refl _) (Value.slice F2 fs2.length cf2)).setCell (p:=⟨w.heap.size,4,none⟩) (Nat.le_refl _) (Value.int .i64 nx));have hgF:=Lib.hid (only_below hgw9 hbF (Nat.le_refl _));have hrF:=Lib.hid (hr9.below hbF hlt);have G1:=Own.more (base':=w.heap.size) (own_set (own_set (own_set (own_set (own_set (Own.kept oI9 (set_grown _ w5.heap.size 3 (Value.slice F2 fs2.length cf2)) neI) w.heap.size 0 (Value.string who.1) (by omega)) w.heap.size 1 (Value.string who.2) (by omega)) w.heap.size 2 (Value.slice I is.length ci) (by omega)) w.heap.size 3 (Value.slice F2 fs2.length cf2) (by omega)) w.heap.size 4 (Value.int .i64 nx) (by omega)) (by omega);have G2:=Own.more (base':=w.heap.size) (own_set (own_set (own_set (own_set (own_set (Own.kept oF9 (set_grown _ w5.heap.size 3 (Value.slice F2 fs2.length cf2)) neF) w.heap.size 0 (Value.string who.1) (by omega)) w.heap.size 1 (Value.string who.2) (by omega)) w.heap.size 2 (Value.slice I is.length ci) (by omega)) w.heap.size 3 (Value.slice F2 fs2.length cf2) (by omega)) w.heap.size 4 (Value.int .i64 nx) (by omega)) (by omega);clear hbF oI9 oF9 o9 oR9
   go_wp2_with fail
   exact bodyPost_ret (v:=.agg #[.string who.1,.string who.2,.slice I is.length ci,.slice F2 fs2.length cf2,.int .i64 nx]) (by simp [results,Tryz.results62,go_sem,r0,r1,r2,r3,r4]) rfl ⟨who,I,ci,is,F2,cf2,fs2,nx,rfl,⟨hw0,hw1⟩,⟨hil,HIZ.out⟩,⟨hfl2,HFZ2.out⟩,⟨hnx0,hnx1⟩,G1,G2,hrF.out.more (by omega),hgF.out⟩
  ·have hrT:=hr8.alloc (.cells #[.int .i64 (-1),.int .i64 1000001] 3)
   have oT:=Own.below o8 ((Below.refl _ _).alloc (Nat.le_refl _) (.cells #[.int .i64 (-1),.int .i64 1000001] 3));have oRT:=Own.below oR8 ((Below.refl _ _).alloc (Nat.le_refl _) (.cells #[.int .i64 (-1),.int .i64 1000001] 3));have oIT:=Own.below oI8 ((Below.refl _ _).alloc (Nat.le_refl _) (.cells #[.int .i64 (-1),.int .i64 1000001] 3));have oFT:=Own.below oF8 ((Below.refl _ _).alloc (Nat.le_refl _) (.cells #[.int .i64 (-1),.int .i64 1000001] 3));have hgT:=only_alloc w (some g) hgw8 (.cells #[.int .i64 (-1),.int .i64 1000001] 3)
   go_wp2_with fail
   refine (pick_any g _ _ _ hrT (by omega)).mono ?_;rintro e w9 ⟨y3,rfl,hv0,hv1,hr9,hg9⟩;obtain ⟨z3,rfl⟩:=Int.eq_ofNat_of_zero_le hv0;have hz3 : z3 < 2:=by omega
   have htab:=tab_cell hg9 (by omega);obtain ⟨nx2,hnn0,hnn1,hcy⟩ : ∃ nx : Int,-1 ≤ nx ∧ nx ≤ 1000001 ∧ w9.cell? ⟨w8.heap.size,z3,none⟩ = some (.int .i64 nx):=by
    rw [htab z3]
    match z3,hz3 with
    | 0,_ => exact ⟨-1,by omega,by omega,rfl⟩
    | 1,_ => exact ⟨1000001,by omega,by omega,rfl⟩
   have o9:=keptB oT hg9 (by omega);have oR9:=keptB oRT hg9 hlt;have oI9:=keptI oIT hg9 (by omega);have oF9:=keptH oFT hg9 (by omega);have hgw9:=hgT.trans hg9;have hs9:=hg9.size;simp at hs9;have hs9b : w8.heap.size ≤ w9.heap.size:=by omega
   have neI : blk I = none ∨ blk I ≠ some w5.heap.size:=HNI.out;have neF : blk F = none ∨ blk F ≠ some w5.heap.size:=HNF.out;clear htab o8 oR8 oI8 oF8 hr8 hgw8 hg9 oT oRT oIT oFT hgT hrT;have k0 : _ = some (Value.string who.1):=o9.cell (b:=w5.heap.size) rfl (j:=0) (by omega);have kf0:=o9.frozen (b:=w5.heap.size) rfl 0;have k1 : _ = some (Value.string who.2):=o9.cell (b:=w5.heap.size) rfl (j:=1) (by omega);have kf1:=o9.frozen (b:=w5.heap.size) rfl 1;have k2 : _ = some (Value.slice I is.length ci):=o9.cell (b:=w5.heap.size) rfl (j:=2) (by omega);have kf2:=o9.frozen (b:=w5.heap.size) rfl 2;have k3 : _ = some (Value.slice F fs.length cf):=o9.cell (b:=w5.heap.size) rfl (j:=3) (by omega);have kf3:=o9.frozen (b:=w5.heap.size) rfl 3;have k4 : _ = some (Value.int .i64 nx):=o9.cell (b:=w5.heap.size) rfl (j:=4) (by omega);have kf4:=o9.frozen (b:=w5.heap.size) rfl 4;have r0 : _ = some (Value.string { data:=#[] }):=oR9.cell (b:=w.heap.size) rfl (j:=0) (by omega);have rf0:=oR9.frozen (b:=w.heap.size) rfl 0;have r1 : _ = some (Value.string { data:=#[] }):=oR9.cell (b:=w.heap.size) rfl (j:=1) (by omega);have rf1:=oR9.frozen (b:=w.heap.size) rfl 1;have r2 : _ = some (Value.slice none 0 0):=oR9.cell (b:=w.heap.size) rfl (j:=2) (by omega);have rf2:=oR9.frozen (b:=w.heap.size) rfl 2;have r3 : _ = some (Value.slice none 0 0):=oR9.cell (b:=w.heap.size) rfl (j:=3) (by omega);have rf3:=oR9.frozen (b:=w.heap.size) rfl 3;have r4 : _ = some (Value.int .i64 0):=oR9.cell (b:=w.heap.size) rfl (j:=4) (by omega);have rf4:=oR9.frozen (b:=w.heap.size) rfl 4;have hbF : Below w.heap.size w9 ((((((w9.setCell ⟨w5.heap.size,4,none⟩ (Value.int .i64 nx2)).setCell ⟨w.heap.size,0,none⟩ (Value.string who.1)).setCell ⟨w.heap.size,1,none⟩ (Value.string who.2)).setCell ⟨w.heap.size,2,none⟩ (Value.slice I is.length ci)).setCell ⟨w.heap.size,3,none⟩ (Value.slice F fs.length cf)).setCell ⟨w.heap.size,4,none⟩ (Value.int .i64 nx2)):=(((((((Below.refl w.heap.size w9).setCell (p:=⟨w5.heap.size,4,none⟩) (by show w.heap.size ≤ w5.heap.size; omega) (Value.int .i64 nx2)).setCell (p:=⟨w.heap.size,0,none⟩) (Nat.le_refl _) (Value.string who.1)).setCell (p:=⟨w.heap.size,1,none⟩) (Nat.le_refl _) (Value.string who.2)).setCell (p:=⟨w.heap.size,2,none⟩) (Nat.le_refl _) (Value.slice I is.length ci)).setCell (p:=⟨w.heap.size,3,none⟩) (Nat.le_refl _) (Value.slice F fs.length cf)).setCell (p:=⟨w.heap.size,4,none⟩) (Nat.le_refl _) (Value.int .i64 nx2));have hgF:=Lib.hid (only_below hgw9 hbF (Nat.le_refl _));have hrF:=Lib.hid (hr9.below hbF hlt);have G1:=Own.more (base':=w.heap.size) (own_set (own_set (own_set (own_set (own_set (Own.kept oI9 (set_grown _ w5.heap.size 4 (Value.int .i64 nx2)) neI) w.heap.size 0 (Value.string who.1) (by omega)) w.heap.size 1 (Value.string who.2) (by omega)) w.heap.size 2 (Value.slice I is.length ci) (by omega)) w.heap.size 3 (Value.slice F fs.length cf) (by omega)) w.heap.size 4 (Value.int .i64 nx2) (by omega)) (by omega);have G2:=Own.more (base':=w.heap.size) (own_set (own_set (own_set (own_set (own_set (Own.kept oF9 (set_grown _ w5.heap.size 4 (Value.int .i64 nx2)) neF) w.heap.size 0 (Value.string who.1) (by omega)) w.heap.size 1 (Value.string who.2) (by omega)) w.heap.size 2 (Value.slice I is.length ci) (by omega)) w.heap.size 3 (Value.slice F fs.length cf) (by omega)) w.heap.size 4 (Value.int .i64 nx2) (by omega)) (by omega);clear hbF oI9 oF9 o9 oR9
   go_wp2_with fail
   exact bodyPost_ret (v:=.agg #[.string who.1,.string who.2,.slice I is.length ci,.slice F fs.length cf,.int .i64 nx2]) (by simp [results,Tryz.results62,go_sem,r0,r1,r2,r3,r4]) rfl ⟨who,I,ci,is,F,cf,fs,nx2,rfl,⟨hw0,hw1⟩,⟨hil,HIZ.out⟩,⟨hfl,HFZ.out⟩,⟨hnn0,hnn1⟩,G1,G2,hrF.out.more (by omega),hgF.out⟩
def DrewCl (g m : Nat) (w : World) (e : Ending) (w' : World) : Prop:=∃ s : ByteArray,e = .returned (.string s) ∧ s.size ≤ 9000 ∧ Rdr w' g m ∧ w.grownBy w' (some g)
set_option maxHeartbeats 1600000 in
theorem l20Call_any (g m : Nat) (w : World) (h : Rdr w g m) (hm : m ≤ 800000) :
    Calls Tryz.prog 63 #[.pointer (some ⟨g,0,none⟩)] w (DrewCl g (m + 20) w):=by
 have hlt:=h.lt;go_enter Tryz.func63,Tryz.ntmps63
 go_wp2_with fail
 refine (pick_any g m _ _ h (by omega)).mono ?_;rintro e w1 ⟨y,rfl,hy0,hy1,hr1,hg1⟩;obtain ⟨y,rfl⟩:=Int.eq_ofNat_of_zero_le hy0;have hyb : y < 6:=by omega
 have hs1:=hg1.size;clear hy0 hy1;rcases (by omega : y = 0 ∨ y = 1 ∨ y = 2 ∨ y = 3 ∨ y = 4 ∨ y = 5) with rfl | rfl | rfl | rfl | rfl | rfl
 ·skip
  go_wp2_with fail
  refine (l20Item_any g _ _ _ hr1 (by omega) (by omega) (by omega)).mono ?_;rintro e w2 ⟨p,rfl,hp0,hp1,hp2,hr2,hg2⟩;have hg12:=hg1.trans hg2;have hz2:=hg2.size
  go_wp2_with fail
  refine (specItemText_some p.1 p.2.1 p.2.2.1 p.2.2.2 w2 (by simp only [maxLen]; omega) (by simp only [maxLen]; omega) (by simp only [maxLen]; omega)).mono ?_;rintro e w3 ⟨⟨s,rfl,hs⟩,b3⟩;have e1 : ({ data:=#[105,116,101,109,32] } : ByteArray).size = 5:=rfl
  go_wp2_with fail
  go_ret;refine ⟨_,rfl,by simp only [ByteArray.size_append]; omega,(hr2.below b3 (by omega)).more (by omega),only_below hg12 b3 (by omega)⟩
 ·skip
  go_wp2_with fail
  refine (l20Item_any g _ _ _ hr1 (by omega) (by omega) (by omega)).mono ?_;rintro e w2 ⟨p,rfl,hp0,hp1,hp2,hr2,hg2⟩;have hg12:=hg1.trans hg2;have hz2:=hg2.size
  go_wp2_with fail
  refine (specItemText_some p.1 p.2.1 p.2.2.1 p.2.2.2 w2 (by simp only [maxLen]; omega) (by simp only [maxLen]; omega) (by simp only [maxLen]; omega)).mono ?_;rintro e w3 ⟨⟨s,rfl,hs⟩,b3⟩;have e1 : ({ data:=#[105,116,101,109,32] } : ByteArray).size = 5:=rfl
  go_wp2_with fail
  go_ret;refine ⟨_,rfl,by simp only [ByteArray.size_append]; omega,(hr2.below b3 (by omega)).more (by omega),only_below hg12 b3 (by omega)⟩
 ·skip
  have hrT:=hr1.alloc (.cells #[.string { data:=#[107,49] },.string { data:=#[107,50] },.string { data:=#[107,51] },.string { data:=#[110,111,110,101] }] 9);have hgT:=only_alloc w (some g) hg1 (.cells #[.string { data:=#[107,49] },.string { data:=#[107,50] },.string { data:=#[107,51] },.string { data:=#[110,111,110,101] }] 9)
  go_wp2_with fail
  refine (pick_any g _ _ _ hrT (by omega)).mono ?_;rintro e w2 ⟨z,rfl,hz0,hz1,hr2,hg2⟩;obtain ⟨z,rfl⟩:=Int.eq_ofNat_of_zero_le hz0;have hz : z < 4:=by omega
  have hzi : (z : Int) < 4:=by omega
  have htab:=tab_cell hg2 (by omega);obtain ⟨s,hs,hcs⟩ : ∃ s : ByteArray,s.size ≤ 20 ∧ w2.cell? ⟨w1.heap.size,z,none⟩ = some (.string s):=by
   rw [htab z]
   match z,hz with
   | 0,_ => exact ⟨{ data:=#[107,49] },by decide,rfl⟩
   | 1,_ => exact ⟨{ data:=#[107,50] },by decide,rfl⟩
   | 2,_ => exact ⟨{ data:=#[107,51] },by decide,rfl⟩
   | 3,_ => exact ⟨{ data:=#[110,111,110,101] },by decide,rfl⟩
  have hg12:=hgT.trans hg2;clear htab hz0 hz1 hrT hgT hr1 hg1 hg2
  go_wp2_with fail
  go_ret;have e1 : ({ data:=#[103,111,110,101,32] } : ByteArray).size = 5:=rfl;exact ⟨_,rfl,by simp only [ByteArray.size_append]; omega,hr2.more (by omega),hg12⟩
 ·skip
  go_wp2_with fail
  refine (l20Handle_any g _ _ _ hr1 (by omega) (by omega) (by omega)).mono ?_;rintro e w2 ⟨p,rfl,hp0,hp1,hr2,hg2⟩;have hg12:=hg1.trans hg2;have hz2:=hg2.size
  go_wp2_with fail
  refine (specHandleText_any p.1 p.2 w2 (by simp only [maxLen]; omega) (by simp only [maxLen]; omega)).mono ?_;rintro e w3 ⟨rfl,b3⟩;have hhs:=htOf_size (p.1,p.2);have e1 : ({ data:=#[102,111,108,108,111,119,32] } : ByteArray).size = 7:=rfl
  go_wp2_with fail
  go_ret;refine ⟨_,rfl,by simp only [ByteArray.size_append]; omega,(hr2.below b3 (by omega)).more (by omega),only_below hg12 b3 (by omega)⟩
 ·skip
  go_wp2_with fail
  refine (l20Handle_any g _ _ _ hr1 (by omega) (by omega) (by omega)).mono ?_;rintro e w2 ⟨p,rfl,hp0,hp1,hr2,hg2⟩;have hg12:=hg1.trans hg2;have hz2:=hg2.size
  go_wp2_with fail
  refine (specHandleText_any p.1 p.2 w2 (by simp only [maxLen]; omega) (by simp only [maxLen]; omega)).mono ?_;rintro e w3 ⟨rfl,b3⟩;have hhs:=htOf_size (p.1,p.2);have e1 : ({ data:=#[108,101,97,118,101,32] } : ByteArray).size = 6:=rfl
  go_wp2_with fail
  go_ret;refine ⟨_,rfl,by simp only [ByteArray.size_append]; omega,(hr2.below b3 (by omega)).more (by omega),only_below hg12 b3 (by omega)⟩
 ·skip
  have hrT:=hr1.alloc (.cells #[.string { data:=#[] },.string { data:=#[102,97,110,115] },.string { data:=#[102,97,110,115] },.string { data:=#[102,97,110,115,32,120] },.string { data:=#[105,116,101,109] },.string { data:=#[100,97,110,99,101] },.string { data:=#[102,111,108,108,111,119,32,97,110,110] }] 9);have hgT:=only_alloc w (some g) hg1 (.cells #[.string { data:=#[] },.string { data:=#[102,97,110,115] },.string { data:=#[102,97,110,115] },.string { data:=#[102,97,110,115,32,120] },.string { data:=#[105,116,101,109] },.string { data:=#[100,97,110,99,101] },.string { data:=#[102,111,108,108,111,119,32,97,110,110] }] 9)
  go_wp2_with fail
  refine (pick_any g _ _ _ hrT (by omega)).mono ?_;rintro e w2 ⟨z,rfl,hz0,hz1,hr2,hg2⟩;obtain ⟨z,rfl⟩:=Int.eq_ofNat_of_zero_le hz0;have hz : z < 7:=by omega
  have hzi : (z : Int) < 7:=by omega
  have htab:=tab_cell hg2 (by omega);obtain ⟨s,hs,hcs⟩ : ∃ s : ByteArray,s.size ≤ 20 ∧ w2.cell? ⟨w1.heap.size,z,none⟩ = some (.string s):=by
   rw [htab z]
   match z,hz with
   | 0,_ => exact ⟨{ data:=#[] },by decide,rfl⟩
   | 1,_ => exact ⟨{ data:=#[102,97,110,115] },by decide,rfl⟩
   | 2,_ => exact ⟨{ data:=#[102,97,110,115] },by decide,rfl⟩
   | 3,_ => exact ⟨{ data:=#[102,97,110,115,32,120] },by decide,rfl⟩
   | 4,_ => exact ⟨{ data:=#[105,116,101,109] },by decide,rfl⟩
   | 5,_ => exact ⟨{ data:=#[100,97,110,99,101] },by decide,rfl⟩
   | 6,_ => exact ⟨{ data:=#[102,111,108,108,111,119,32,97,110,110] },by decide,rfl⟩
  have hg12:=hgT.trans hg2;clear htab hz0 hz1 hrT hgT hr1 hg1 hg2
  go_wp2_with fail
  go_ret;exact ⟨_,rfl,by omega,hr2.more (by omega),hg12⟩
def DrawnBls (w : World) (e : Ending) (w' : World) : Prop:=∃ (who : ElHandle) (I : Option Addr) (ci : Nat) (is : List ElItem) (F : Option Addr) (cf : Nat) (fs : List ElHandle) (nx : Int) (S : Option Addr) (cS : Nat) (ls : List ByteArray),e = .returned (.tuple #[.agg #[.string who.1,.string who.2,.slice I is.length ci,.slice F fs.length cf,.int .i64 nx],.slice S ls.length cS]) ∧ (who.1.size ≤ 9 ∧ who.2.size ≤ 9) ∧ (is.length ≤ 7 ∧ ∀ x ∈ is,x.1.size ≤ 81 ∧ x.2.1.size ≤ 81 ∧ x.2.2.1.size ≤ 81) ∧ (fs.length ≤ 6 ∧ ∀ x ∈ fs,x.1.size ≤ 9 ∧ x.2.size ≤ 9) ∧ (-1 ≤ nx ∧ nx ≤ 1000001) ∧ (ls.length ≤ 31 ∧ ∀ x ∈ ls,x.size ≤ 9000) ∧ OwnE 4 encItem 69 w' w.heap.size I ci is ∧ OwnE 2 encHandle 29 w' w.heap.size F cf fs ∧ OwnE 1 encStr 9 w' w.heap.size S cS ls ∧ Below w.heap.size w w'
theorem own_setB {w : World} {base e sz n cap : Nat} {A : Option Addr} {f : Nat → Value} (h : Own w base e sz A n cap f) (b o : Nat) (u : Value) (hb : b < base) : Own (w.setCell ⟨b,o,none⟩ u) base e sz A n cap f:=own_set h b o u hb
def zs31 : Array Value:=madeCells (Value.string ByteArray.empty).cells (31 * 1)
theorem info_strb : (Tryz.prog.info? 9).map (fun i => (i.zero,i.size,i.bytes)) = some (some (.string ByteArray.empty),1,16):=by kernel_rfl
theorem make31 (w : World) : (Instr.makeSlice 51 (.int .i64 31) (.int .i64 31)).run Tryz.prog w = .ok (.slice (some ⟨w.heap.size,0,none⟩) 31 31) (w.alloc (.cells zs31 9)) :=
 mk_run (P:=Tryz.prog) 51 9 _ _ _ Tryz.underlying51 info_strb 31 (by omega) (by omega) w
def ls31 : List ByteArray:=List.replicate 31 ByteArray.empty
theorem own31 (w : World) : OwnE 1 encStr 9 (w.alloc (.cells zs31 9)) w.heap.size (some ⟨w.heap.size,0,none⟩) 31 ls31 :=
 Own.lit w 9 1 31 zs31 (cE 1 encStr ls31) (by simp only [maxLen]; omega) (by show (madeCells #[Value.string ByteArray.empty] 31).toList = _; rw [toList_madeCells_one]; rfl)
set_option maxHeartbeats 1600000 in
theorem DrawBridgeLines_any (A : Option Addr) (cap B : Nat) (cs : List Int) (w : World) (h : RdU w B A cs) (hB : B ≤ w.heap.size) (hb : ∀ j,0 ≤ PP.at_ cs j ∧ PP.at_ cs j ≤ 255) (hc : cs.length ≤ cap) (hl : cs.length ≤ 1048576) :
    Calls Tryz.prog 28 #[.slice A cs.length cap] w (DrawnBls w):=by
 have oR : Own (w.alloc (.cells #[.string { data:=#[] },.string { data:=#[] },.slice none 0 0,.slice none 0 0,.int .i64 0] 33)) w.heap.size 33 5 (some ⟨w.heap.size,0,none⟩) 1 1 zBr:=Own.lit w 33 5 1 #[Value.string { data:=#[] },Value.string { data:=#[] },Value.slice none 0 0,Value.slice none 0 0,Value.int .i64 0] zBr (by simp only [maxLen]; omega) rfl;have hbA : Below w.heap.size w (w.alloc (.cells #[.string { data:=#[] },.string { data:=#[] },.slice none 0 0,.slice none 0 0,.int .i64 0] 33)):=(Below.refl _ _).alloc (Nat.le_refl _) _;have hzA : w.heap.size < (w.alloc (.cells #[.string { data:=#[] },.string { data:=#[] },.slice none 0 0,.slice none 0 0,.int .i64 0] 33)).heap.size:=by simp
 have hA : RdU (w.alloc (.cells #[.string { data:=#[] },.string { data:=#[] },.slice none 0 0,.slice none 0 0,.int .i64 0] 33)) B A cs:=h.below (hbA.mono hB);go_enter Tryz.func28,Tryz.ntmps28
 go_wp2_with fail
 generalize (w.alloc (.cells #[.string { data:=#[] },.string { data:=#[] },.slice none 0 0,.slice none 0 0,.int .i64 0] 33)) = wA at *
 refine (l20Open_any A cap B cs wA hA (Nat.le_trans hB hbA.size) hb hc hl).mono ?_;rintro e w1 ⟨rfl,hr1,hb1⟩;have hlt:=hr1.lt;have hs1:=hb1.size;have oR1:=Own.below oR hb1;have hbw1:=hbA.trans (hb1.mono hbA.size);clear oR hbA hA
 go_wp2_with fail
 refine (l20Bridge_any _ 0 _ _ hr1 (by omega) (by omega) (by omega)).mono ?_;rintro e w2 ⟨who,I,ci,is,F,cf,fs,nx,rfl,hw,hi,hf,hn,oI,oF,hr2,hg2⟩;have HI:=Lib.hid hi;have HF:=Lib.hid hf;clear hi hf;have hs2:=hg2.size;have oR2:=Own.kept oR1 hg2 (.inr (by simp [blk]; omega));have hbw2:=hbw1.trans ((Below.refl w.heap.size _).grown hg2 (by omega) (fun i hi => by injection hi with hi; omega));have bX : Below w2.heap.size w2 (w2.alloc (.cells #[.string who.1,.string who.2,.slice I is.length ci,.slice F fs.length cf,.int .i64 nx] 33)):=(Below.refl _ _).alloc (Nat.le_refl _) _;have hrX:=hr2.alloc (.cells #[.string who.1,.string who.2,.slice I is.length ci,.slice F fs.length cf,.int .i64 nx] 33);have e0 : (w2.alloc (.cells #[.string who.1,.string who.2,.slice I is.length ci,.slice F fs.length cf,.int .i64 nx] 33)).cell? ⟨w2.heap.size,0,none⟩ = some (Value.string who.1):=by rw [World.cell?_alloc_at _ _ _ _ rfl]; rfl
 have e1 : (w2.alloc (.cells #[.string who.1,.string who.2,.slice I is.length ci,.slice F fs.length cf,.int .i64 nx] 33)).cell? ⟨w2.heap.size,1,none⟩ = some (Value.string who.2):=by rw [World.cell?_alloc_at _ _ _ _ rfl]; rfl
 have e2 : (w2.alloc (.cells #[.string who.1,.string who.2,.slice I is.length ci,.slice F fs.length cf,.int .i64 nx] 33)).cell? ⟨w2.heap.size,2,none⟩ = some (Value.slice I is.length ci):=by rw [World.cell?_alloc_at _ _ _ _ rfl]; rfl
 have e3 : (w2.alloc (.cells #[.string who.1,.string who.2,.slice I is.length ci,.slice F fs.length cf,.int .i64 nx] 33)).cell? ⟨w2.heap.size,3,none⟩ = some (Value.slice F fs.length cf):=by rw [World.cell?_alloc_at _ _ _ _ rfl]; rfl
 have e4 : (w2.alloc (.cells #[.string who.1,.string who.2,.slice I is.length ci,.slice F fs.length cf,.int .i64 nx] 33)).cell? ⟨w2.heap.size,4,none⟩ = some (Value.int .i64 nx):=by rw [World.cell?_alloc_at _ _ _ _ rfl]; rfl
 have hzX : w2.heap.size < (w2.alloc (.cells #[.string who.1,.string who.2,.slice I is.length ci,.slice F fs.length cf,.int .i64 nx] 33)).heap.size:=by simp
 have oRX:=Own.below oR2 bX;have oIX:=Own.below oI bX;have oFX:=Own.below oF bX;have hbwX:=hbw2.trans (bX.mono hbw2.size);clear oR1 oR2 hbw1 hbw2 hr1 hr2 hg2 oI oF bX
 go_upto_region 3 with fail
 generalize (w2.alloc (.cells #[.string who.1,.string who.2,.slice I is.length ci,.slice F fs.length cf,.int .i64 nx] 33)) = wX at *
 have oE : OwnE 1 encStr 9 (wX.alloc (.cells #[] 9)) wX.heap.size (some ⟨wX.heap.size,0,none⟩) 0 ([] : List ByteArray):=Own.lit wX 9 1 0 #[] (cE 1 encStr ([] : List ByteArray)) (Nat.zero_le _) rfl;have hrE:=hrX.alloc (.cells #[] 9);have hgE : wX.grownBy (wX.alloc (.cells #[] 9)) (some wA.heap.size):=grown_alloc wX wA.heap.size _;have hsE:=hgE.size
 go_wp2_with fail
 generalize (wX.alloc (.cells #[] 9)) = wE at *
 refine (pick_any _ _ _ _ hrE (by omega)).mono ?_;rintro e w3 ⟨y,rfl,hy0,hy1,hr3,hg3⟩;obtain ⟨y,rfl⟩:=Int.eq_ofNat_of_zero_le hy0;have hy : y < 9:=by omega
 have hs3:=hg3.size;have hgX3:=hgE.trans hg3;have oE3:=keptB oE hg3 (by omega);clear oE hrE hgE hg3 hy0 hy1 hrX
 go_wp2_with fail
 go_loopw [6,7] (fun v i wr => ∃ (c y : Nat) (T : Option Addr) (cap : Nat) (cur : List ByteArray),c + y ≤ 8 ∧ i = .int .i64 y ∧ v = .slice T cur.length cap ∧ cur.length ≤ c ∧ Hid (∀ x ∈ cur,x.size ≤ 9000) ∧ OwnE 1 encStr 9 wr wX.heap.size T cap cur ∧ Rdr wr wA.heap.size (300 + 20 * c) ∧ wX.grownBy wr (some wA.heap.size)) (fun _ i _ => (intOf i).toNat)
 case atStart => exact ⟨0,y,_,_,[],by omega,rfl,rfl,Nat.le_refl _,Lib.hid (fun x hx => by cases hx),oE3,hr3.more (by omega),hgX3⟩
 case round =>
  clear oE3 hr3 hgX3;obtain ⟨c,y,T,cap,cur,hcy,rfl,rfl,hcl,HSZ,hown,hrr,hgr⟩:=hrel;have hsr:=hgr.size;by_cases hlt : 0 < y
  ·have g0 : decide ((0 : Int) < (y : Int)) = true:=decide_eq_true (by omega)
   go_wp2_with fail
   refine (l20Call_any _ _ _ hrr (by omega)).mono ?_;rintro e w5 ⟨t,rfl,ht,hr5,hg5⟩;have hs5:=hg5.size;have o5:=keptB hown hg5 (by omega);have hgX5:=hgr.trans hg5;have HS2:=Lib.hid (show ∀ x ∈ cur ++ [t],x.size ≤ 9000 from fun x hx => by rcases List.mem_append.1 hx with h1 | h1; exact HSZ.out x h1; rw [List.mem_singleton] at h1; rw [h1]; exact ht);clear hown hrr hgr hg5 HSZ
   go_wp2_with (at_builtin; refine wpList_app rfl (.tmp 19) (.tmp 22) _ rfl wX.heap.size 9 _ 1 16 Tryz.underlying51 info_String rfl (by omega) T (some ⟨w5.heap.size,0,none⟩) cur.length cap 1 1 (w5.heap.size + 1) (cE 1 encStr cur) (encStr t) rfl rfl (Own.below o5 ((Below.refl _ _).alloc (Nat.le_refl _) _)) (rd_elem _ _ _ _ (fun j hj => by rcases (by omega : j = 0) with rfl; rfl)) (fun _ _ => encStr_one _ _) (by simp only [maxLen]; omega) (by omega) (by first | omega | (simp; omega)) ?_; intro T7 c7 w7 o7 g7)
   go_roundw
   case rel =>
    have bA : ∀ o,Below w5.heap.size w5 (w5.alloc o):=fun o => (Below.refl _ _).alloc (Nat.le_refl _) o
    have b57:=((Below.refl wX.heap.size w5).alloc (by omega) _).trans (grown_below g7 (fun b hb => (Own.lt o5 hb).1) (by first | omega | (simp; omega)));exact ⟨c + 1,y - 1,T7,c7,cur ++ [t],by omega,by go_num,by rw [List.length_append]; rfl,by rw [List.length_append]; simp; omega,HS2,OwnE.snoc (by omega) o7,(hr5.below b57 (by omega)).more (by omega),only_below hgX5 b57 (Nat.le_refl _)⟩
   case measure => simp [intOf]; omega
  ·have g0 : decide ((0 : Int) < (y : Int)) = false:=decide_eq_false (by omega)
   go_wp2_with fail
   refine (odd_any _ _ _ _ hrr (by omega) (by omega) (by omega)).mono ?_;rintro e w5 ⟨q,rfl,hr5,hg5⟩;have hs5:=hg5.size;have o5:=keptB hown hg5 (by omega);have hgX5:=hgr.trans hg5;clear hown hrr hgr hg5;have hbw5:=hbwX.trans ((Below.refl w.heap.size _).grown hgX5 (by omega) (fun i hi => by injection hi with hi; omega));cases q
   ·have HL:=Lib.hid (show cur.length ≤ 31 ∧ ∀ x ∈ cur,x.size ≤ 9000 from ⟨by omega,HSZ.out⟩)
    have hbwN:=hbw5;have q0:=(cell_stb hgX5 (i:=0) (show wA.heap.size < w2.heap.size by omega) hzX).trans e0;have q1:=(cell_stb hgX5 (i:=1) (show wA.heap.size < w2.heap.size by omega) hzX).trans e1;have q2:=(cell_stb hgX5 (i:=2) (show wA.heap.size < w2.heap.size by omega) hzX).trans e2;have q3:=(cell_stb hgX5 (i:=3) (show wA.heap.size < w2.heap.size by omega) hzX).trans e3;have q4:=(cell_stb hgX5 (i:=4) (show wA.heap.size < w2.heap.size by omega) hzX).trans e4;have oRN:=Own.kept oRX hgX5 (.inr (by simp [blk]; omega));have r0 : _ = some (Value.string { data:=#[] }):=oRN.cell (b:=w.heap.size) rfl (j:=0) (by omega);have rf0:=oRN.frozen (b:=w.heap.size) rfl 0;have r1 : _ = some (Value.string { data:=#[] }):=oRN.cell (b:=w.heap.size) rfl (j:=1) (by omega);have rf1:=oRN.frozen (b:=w.heap.size) rfl 1;have r2 : _ = some (Value.slice none 0 0):=oRN.cell (b:=w.heap.size) rfl (j:=2) (by omega);have rf2:=oRN.frozen (b:=w.heap.size) rfl 2;have r3 : _ = some (Value.slice none 0 0):=oRN.cell (b:=w.heap.size) rfl (j:=3) (by omega);have rf3:=oRN.frozen (b:=w.heap.size) rfl 3;have r4 : _ = some (Value.int .i64 0):=oRN.cell (b:=w.heap.size) rfl (j:=4) (by omega);have rf4:=oRN.frozen (b:=w.heap.size) rfl 4;have G1:=Own.more (base':=w.heap.size) (own_setB (own_setB (own_setB (own_setB (own_setB (keptB oIX hgX5 (by omega)) w.heap.size 0 (Value.string who.1) (by omega)) w.heap.size 1 (Value.string who.2) (by omega)) w.heap.size 2 (Value.slice I is.length ci) (by omega)) w.heap.size 3 (Value.slice F fs.length cf) (by omega)) w.heap.size 4 (Value.int .i64 nx) (by omega)) (by omega);have G2:=Own.more (base':=w.heap.size) (own_setB (own_setB (own_setB (own_setB (own_setB (keptB oFX hgX5 (by omega)) w.heap.size 0 (Value.string who.1) (by omega)) w.heap.size 1 (Value.string who.2) (by omega)) w.heap.size 2 (Value.slice I is.length ci) (by omega)) w.heap.size 3 (Value.slice F fs.length cf) (by omega)) w.heap.size 4 (Value.int .i64 nx) (by omega)) (by omega);have G3:=Own.more (base':=w.heap.size) (own_setB (own_setB (own_setB (own_setB (own_setB o5 w.heap.size 0 (Value.string who.1) (by omega)) w.heap.size 1 (Value.string who.2) (by omega)) w.heap.size 2 (Value.slice I is.length ci) (by omega)) w.heap.size 3 (Value.slice F fs.length cf) (by omega)) w.heap.size 4 (Value.int .i64 nx) (by omega)) (by omega);have K:=(((((hbwN.setCell (p:=⟨w.heap.size,0,none⟩) (Nat.le_refl _) (Value.string who.1)).setCell (p:=⟨w.heap.size,1,none⟩) (Nat.le_refl _) (Value.string who.2)).setCell (p:=⟨w.heap.size,2,none⟩) (Nat.le_refl _) (Value.slice I is.length ci)).setCell (p:=⟨w.heap.size,3,none⟩) (Nat.le_refl _) (Value.slice F fs.length cf)).setCell (p:=⟨w.heap.size,4,none⟩) (Nat.le_refl _) (Value.int .i64 nx));clear oRN
    go_wp2_with fail
    exact bodyPost_ret (v:=.tuple #[.agg #[.string who.1,.string who.2,.slice I is.length ci,.slice F fs.length cf,.int .i64 nx],.slice T cur.length cap]) (by simp [results,Tryz.results28,go_sem,r0,r1,r2,r3,r4]) rfl ⟨who,I,ci,is,F,cf,fs,nx,T,cap,cur,rfl,hw,HI.out,HF.out,hn,HL.out,G1,G2,G3,K⟩
   ·have HL:=Lib.hid (show ls31.length ≤ 31 ∧ ∀ x ∈ ls31,x.size ≤ 9000 from ⟨Nat.le_refl _,fun x hx => by rw [List.eq_of_mem_replicate hx]; exact Nat.zero_le _⟩)
    have hmk:=make31;have oM:=own31 w5;have hgM : wX.grownBy (w5.alloc (.cells zs31 9)) (some wA.heap.size):=only_alloc _ _ hgX5 _;have hbwN:=hbw5.alloc (by omega : w.heap.size ≤ w5.heap.size) (.cells zs31 9);clear o5 hgX5 hbw5 hr5
    go_upto_region 10 with fail
    generalize (w5.alloc (.cells zs31 9)) = wM at *
    have hsM:=hgM.size;have q0:=(cell_stb hgM (i:=0) (show wA.heap.size < w2.heap.size by omega) hzX).trans e0;have q1:=(cell_stb hgM (i:=1) (show wA.heap.size < w2.heap.size by omega) hzX).trans e1;have q2:=(cell_stb hgM (i:=2) (show wA.heap.size < w2.heap.size by omega) hzX).trans e2;have q3:=(cell_stb hgM (i:=3) (show wA.heap.size < w2.heap.size by omega) hzX).trans e3;have q4:=(cell_stb hgM (i:=4) (show wA.heap.size < w2.heap.size by omega) hzX).trans e4;have oRN:=Own.kept oRX hgM (.inr (by simp [blk]; omega));have r0 : _ = some (Value.string { data:=#[] }):=oRN.cell (b:=w.heap.size) rfl (j:=0) (by omega);have rf0:=oRN.frozen (b:=w.heap.size) rfl 0;have r1 : _ = some (Value.string { data:=#[] }):=oRN.cell (b:=w.heap.size) rfl (j:=1) (by omega);have rf1:=oRN.frozen (b:=w.heap.size) rfl 1;have r2 : _ = some (Value.slice none 0 0):=oRN.cell (b:=w.heap.size) rfl (j:=2) (by omega);have rf2:=oRN.frozen (b:=w.heap.size) rfl 2;have r3 : _ = some (Value.slice none 0 0):=oRN.cell (b:=w.heap.size) rfl (j:=3) (by omega);have rf3:=oRN.frozen (b:=w.heap.size) rfl 3;have r4 : _ = some (Value.int .i64 0):=oRN.cell (b:=w.heap.size) rfl (j:=4) (by omega);have rf4:=oRN.frozen (b:=w.heap.size) rfl 4;have G1:=Own.more (base':=w.heap.size) (own_setB (own_setB (own_setB (own_setB (own_setB (keptB oIX hgM (by omega)) w.heap.size 0 (Value.string who.1) (by omega)) w.heap.size 1 (Value.string who.2) (by omega)) w.heap.size 2 (Value.slice I is.length ci) (by omega)) w.heap.size 3 (Value.slice F fs.length cf) (by omega)) w.heap.size 4 (Value.int .i64 nx) (by omega)) (by omega);have G2:=Own.more (base':=w.heap.size) (own_setB (own_setB (own_setB (own_setB (own_setB (keptB oFX hgM (by omega)) w.heap.size 0 (Value.string who.1) (by omega)) w.heap.size 1 (Value.string who.2) (by omega)) w.heap.size 2 (Value.slice I is.length ci) (by omega)) w.heap.size 3 (Value.slice F fs.length cf) (by omega)) w.heap.size 4 (Value.int .i64 nx) (by omega)) (by omega);have G3:=Own.more (base':=w.heap.size) (own_setB (own_setB (own_setB (own_setB (own_setB oM w.heap.size 0 (Value.string who.1) (by omega)) w.heap.size 1 (Value.string who.2) (by omega)) w.heap.size 2 (Value.slice I is.length ci) (by omega)) w.heap.size 3 (Value.slice F fs.length cf) (by omega)) w.heap.size 4 (Value.int .i64 nx) (by omega)) (by omega);have K:=(((((hbwN.setCell (p:=⟨w.heap.size,0,none⟩) (Nat.le_refl _) (Value.string who.1)).setCell (p:=⟨w.heap.size,1,none⟩) (Nat.le_refl _) (Value.string who.2)).setCell (p:=⟨w.heap.size,2,none⟩) (Nat.le_refl _) (Value.slice I is.length ci)).setCell (p:=⟨w.heap.size,3,none⟩) (Nat.le_refl _) (Value.slice F fs.length cf)).setCell (p:=⟨w.heap.size,4,none⟩) (Nat.le_refl _) (Value.int .i64 nx));clear oRN
    go_wp2_with fail
    exact bodyPost_ret (v:=.tuple #[.agg #[.string who.1,.string who.2,.slice I is.length ci,.slice F fs.length cf,.int .i64 nx],.slice (some ⟨w5.heap.size,0,none⟩) 31 31]) (by simp [results,Tryz.results28,go_sem,r0,r1,r2,r3,r4]) rfl ⟨who,I,ci,is,F,cf,fs,nx,some ⟨w5.heap.size,0,none⟩,31,ls31,rfl,hw,HI.out,HF.out,hn,HL.out,G1,G2,G3,K⟩
theorem RdE.str {w : World} {B : Nat} {A : Option Addr} {xs : List ByteArray} (h : RdE 1 encStr w B A xs) (hn : 0 < xs.length) : ∃ b off,A = some ⟨b,off,none⟩ ∧ b < B ∧ ∀ k,k < xs.length → w.cell? ⟨b,off + k,none⟩ = some (.string (gt xs k)):=by
 obtain ⟨b,off,e,hb,hc⟩:=h.at_ hn;refine ⟨b,off,e,hb,fun k hk => ?_⟩;have:=hc k 0 hk (by omega)
 rwa [Nat.mul_one,Nat.add_zero] at this
end Go.Proofs.YtfnmlffpnmmcdaaGreatDoor
namespace Go.Proofs.YtfnmlffpnmmcdaaGreatDoor
set_option maxRecDepth 100000
open Go.RowKit
set_option maxHeartbeats 1600000 in
theorem sameBridge_self (who : ElHandle) (I : Option Addr) (ci : Nat) (is : List ElItem) (F : Option Addr) (cf : Nat) (fs : List ElHandle) (nx : Int) (I2 F2 : Option Addr) (ci2 cf2 : Nat) (w : World) (B : Nat) (hI : RdE 4 encItem w B I is) (hF : RdE 2 encHandle w B F fs) (hB : B ≤ w.heap.size) (hI2 : RdE 4 encItem w B I2 is) (hF2 : RdE 2 encHandle w B F2 fs) (hl : is.length ≤ 140737488351232) (hlf : fs.length ≤ 140737488351232) :
    Calls Tryz.prog 15 #[.agg #[.string who.1,.string who.2,.slice I is.length ci,.slice F fs.length cf,.int .i64 nx],.agg #[.string who.1,.string who.2,.slice I2 is.length ci2,.slice F2 fs.length cf2,.int .i64 nx]] w fun e w' => e = .returned (.bool true) ∧ Below w.heap.size w w':=by
 have hbA : Below w.heap.size w ((w.alloc (.cells #[.string who.1,.string who.2,.slice I is.length ci,.slice F fs.length cf,.int .i64 nx] 33)).alloc (.cells #[.string who.1,.string who.2,.slice I2 is.length ci2,.slice F2 fs.length cf2,.int .i64 nx] 33)):=((Below.refl _ _).alloc (Nat.le_refl _) _).alloc (by simp) _;have hzA : w.heap.size + 1 < ((w.alloc (.cells #[.string who.1,.string who.2,.slice I is.length ci,.slice F fs.length cf,.int .i64 nx] 33)).alloc (.cells #[.string who.1,.string who.2,.slice I2 is.length ci2,.slice F2 fs.length cf2,.int .i64 nx] 33)).heap.size:=by simp
 have oA : Own ((w.alloc (.cells #[.string who.1,.string who.2,.slice I is.length ci,.slice F fs.length cf,.int .i64 nx] 33)).alloc (.cells #[.string who.1,.string who.2,.slice I2 is.length ci2,.slice F2 fs.length cf2,.int .i64 nx] 33)) w.heap.size 33 5 (some ⟨w.heap.size,0,none⟩) 1 1 (bxC who I is.length ci F fs.length cf nx):=Own.below (Own.lit w 33 5 1 #[Value.string who.1,Value.string who.2,Value.slice I is.length ci,Value.slice F fs.length cf,Value.int .i64 nx] (bxC who I is.length ci F fs.length cf nx) (by simp only [maxLen]; omega) rfl) ((Below.refl _ _).alloc (Nat.le_refl _) _);have oB : Own ((w.alloc (.cells #[.string who.1,.string who.2,.slice I is.length ci,.slice F fs.length cf,.int .i64 nx] 33)).alloc (.cells #[.string who.1,.string who.2,.slice I2 is.length ci2,.slice F2 fs.length cf2,.int .i64 nx] 33)) (w.heap.size + 1) 33 5 (some ⟨w.heap.size + 1,0,none⟩) 1 1 (bxC who I2 is.length ci2 F2 fs.length cf2 nx):=by
  have:=Own.lit (w.alloc (.cells #[.string who.1,.string who.2,.slice I is.length ci,.slice F fs.length cf,.int .i64 nx] 33)) 33 5 1 #[Value.string who.1,Value.string who.2,Value.slice I2 is.length ci2,Value.slice F2 fs.length cf2,Value.int .i64 nx] (bxC who I2 is.length ci2 F2 fs.length cf2 nx) (by simp only [maxLen]; omega) rfl;rw [show (w.alloc (.cells #[.string who.1,.string who.2,.slice I is.length ci,.slice F fs.length cf,.int .i64 nx] 33)).heap.size = w.heap.size + 1 by simp] at this;exact this
 have a0:=(show _ = some (Value.string who.1) from oA.cell rfl (j:=0) (by omega));have a1:=(show _ = some (Value.string who.2) from oA.cell rfl (j:=1) (by omega));have a2:=(show _ = some (Value.slice I is.length ci) from oA.cell rfl (j:=2) (by omega));have a3:=(show _ = some (Value.slice F fs.length cf) from oA.cell rfl (j:=3) (by omega));have a4:=(show _ = some (Value.int .i64 nx) from oA.cell rfl (j:=4) (by omega));have y0:=(show _ = some (Value.string who.1) from oB.cell rfl (j:=0) (by omega));have y1:=(show _ = some (Value.string who.2) from oB.cell rfl (j:=1) (by omega));have y2:=(show _ = some (Value.slice I2 is.length ci2) from oB.cell rfl (j:=2) (by omega));have y3:=(show _ = some (Value.slice F2 fs.length cf2) from oB.cell rfl (j:=3) (by omega));have y4:=(show _ = some (Value.int .i64 nx) from oB.cell rfl (j:=4) (by omega));have e1:=eqEl_true (α:=ElHandle) (x:=who) rfl;have heq:=fun W => eql_Handle who.1 who.2 who.1 who.2 W
 rw [show eqEl (α:=ElHandle) (who.1,who.2) (who.1,who.2) = true from e1] at heq;have hgd:=guard_Handle;have hnn : (nx == nx) = true:=by simp
 go_enter Tryz.func15,Tryz.ntmps15
 go_wp2_with fail
 generalize ((w.alloc (.cells #[.string who.1,.string who.2,.slice I is.length ci,.slice F fs.length cf,.int .i64 nx] 33)).alloc (.cells #[.string who.1,.string who.2,.slice I2 is.length ci2,.slice F2 fs.length cf2,.int .i64 nx] 33)) = wA at *
 refine (sameFeed_any I I2 ci ci2 B is is wA (hI.below (hbA.mono hB)) (hI2.below (hbA.mono hB)) (Nat.le_trans hB hbA.size) hl hl).mono ?_;rintro e w1 ⟨rfl,b1⟩;rw [sameB_self is];have k1:=hbA.trans (b1.mono hbA.size);have oA1:=Own.below oA b1;have oB1:=Own.below oB b1;clear a0 a1 a2 a3 a4 y0 y1 y2 y3 y4;have a0:=(show _ = some (Value.string who.1) from oA1.cell rfl (j:=0) (by omega));have a1:=(show _ = some (Value.string who.2) from oA1.cell rfl (j:=1) (by omega));have a2:=(show _ = some (Value.slice I is.length ci) from oA1.cell rfl (j:=2) (by omega));have a3:=(show _ = some (Value.slice F fs.length cf) from oA1.cell rfl (j:=3) (by omega));have a4:=(show _ = some (Value.int .i64 nx) from oA1.cell rfl (j:=4) (by omega));have y0:=(show _ = some (Value.string who.1) from oB1.cell rfl (j:=0) (by omega));have y1:=(show _ = some (Value.string who.2) from oB1.cell rfl (j:=1) (by omega));have y2:=(show _ = some (Value.slice I2 is.length ci2) from oB1.cell rfl (j:=2) (by omega));have y3:=(show _ = some (Value.slice F2 fs.length cf2) from oB1.cell rfl (j:=3) (by omega));have y4:=(show _ = some (Value.int .i64 nx) from oB1.cell rfl (j:=4) (by omega))
 go_wp2_with fail
 refine (sameHandles_any F F2 cf cf2 B fs fs w1 (hF.below (k1.mono hB)) (hF2.below (k1.mono hB)) (Nat.le_trans hB k1.size) hlf hlf).mono ?_;rintro e w2 ⟨rfl,b2⟩;rw [sameB_self fs]
 go_wp2_with fail
 go_ret;exact ⟨rfl,k1.trans (b2.mono k1.size)⟩
set_option maxHeartbeats 800000 in
theorem sameTexts_any (A A' : Option Addr) (cap cap' B : Nat) (xs ys : List ByteArray) (w : World) (h : RdE 1 encStr w B A xs) (h' : RdE 1 encStr w B A' ys) (hB : B ≤ w.heap.size) (hl : xs.length ≤ 140737488351232) (hl' : ys.length ≤ 140737488351232) :
    Calls Tryz.prog 29 #[.slice A xs.length cap,.slice A' ys.length cap'] w fun e w' => e = .returned (.bool (sameB xs ys)) ∧ Below w.heap.size w w':=by
 by_cases hlen : xs.length = ys.length
 ·have HL:=Lib.hid hlen
  have hd : ((xs.length : Int) != (ys.length : Int)) = false:=by rw [hlen]; simp
  have hle : xs.length ≤ ys.length:=by omega
  clear hlen;go_enter Tryz.func29,Tryz.ntmps29
  go_wp2_with fail
  go_loopw [5] (fun i wr => ∃ k : Nat,k ≤ xs.length ∧ Hid (∀ j,j < k → gt xs j = gt ys j) ∧ i = .int .i64 k ∧ Below w.heap.size w wr) (fun i _ => xs.length - (intOf i).toNat)
  case atStart => exact ⟨0,Nat.zero_le _,Lib.hid (fun j hj => absurd hj (by omega)),rfl,Below.refl _ _⟩
  case round =>
   obtain ⟨k,hk,HO,rfl,hbl⟩:=hrel;by_cases hlt : k < xs.length
   ·obtain ⟨b,off,rfl,hb,hc⟩:=(h.below (hbl.mono hB)).str (by omega)
    obtain ⟨b',off',rfl,hb',hc'⟩:=(h'.below (hbl.mono hB)).str (by omega);have hck:=hc k hlt;have hck':=hc' k (by omega);have hlt' : k < ys.length:=by omega
    clear hc hc';by_cases hne : gt xs k = gt ys k
    ·have hq : ((gt xs k).toList == (gt ys k).toList) = true:=by rw [hne]; simp
     have hn : ((gt xs k).toList != (gt ys k).toList) = false:=by unfold bne; rw [hq]; rfl
     have HN:=Lib.hid hne; clear hne
     go_wp2_with fail
     go_quiet (fail)
     go_wp2_with fail
     go_roundw
     case rel => exact ⟨k + 1,by omega,Lib.hid (fun j hj => by
      rcases Nat.lt_succ_iff_lt_or_eq.1 hj with h1 | rfl
      ·exact HO.out j h1
      ·exact HN.out),by go_num,below_drewN hbl _⟩
     case measure => simp [intOf]; omega
    ·have hq : ((gt xs k).toList == (gt ys k).toList) = false:=by rw [seq_eql]; exact seq_false.2 hne
     have hn : ((gt xs k).toList != (gt ys k).toList) = true:=by unfold bne; rw [hq]; rfl
     have HN:=Lib.hid hne; clear hne
     go_wp2_with fail
     go_quiet (fail)
     go_wp2_with fail
     go_ret;exact ⟨ret_bool (sameB_at HN.out).symm,below_drewN hbl _⟩
   ·obtain rfl : k = xs.length:=by omega
    go_wp2_with fail
    go_ret;exact ⟨ret_bool (sameB_true HL.out HO.out).symm,hbl⟩
 ·have hd : ((xs.length : Int) != (ys.length : Int)) = true:=by simp; omega
  go_enter Tryz.func29,Tryz.ntmps29
  go_wp2_with fail
  go_ret;exact ⟨ret_bool (sameB_len hlen).symm,Below.refl _ _⟩
end Go.Proofs.YtfnmlffpnmmcdaaGreatDoor
namespace Go.Proofs.YtfnmlffpnmmcdaaGreatDoor
set_option maxRecDepth 100000
open Go.RowKit
def blsTo (b : ElBr) (ls : List ByteArray) : Nat → ElBr × List ByteArray
 | 0 => (b,[])
 | k + 1 => ((blOf (blsTo b ls k).1 (gt ls k)).1,(blsTo b ls k).2 ++ [(blOf (blsTo b ls k).1 (gt ls k)).2])
theorem blsTo_valid {b : ElBr} (h : brvB b = true) (ls : List ByteArray) : ∀ k,brvB (blsTo b ls k).1 = true
 | 0 => h
 | k + 1 => blOf_valid (blsTo_valid h ls k)
theorem blsTo_len (b : ElBr) (ls : List ByteArray) : ∀ k,(blsTo b ls k).2.length = k
 | 0 => rfl
 | k + 1 => by rw [blsTo,List.length_append,blsTo_len b ls k]; rfl
theorem blsTo_step {b x : ElBr} {ls as_ : List ByteArray} {k : Nat} (h : (x,as_) = blsTo b ls k) : ((blOf x (gt ls k)).1,as_ ++ [(blOf x (gt ls k)).2]) = blsTo b ls (k + 1):=by
 rw [blsTo,← h]
def zBr0 : ElBr:=(({ data:=#[] },{ data:=#[] }),[],[],0)
def blsR (b : ElBr) (ls : List ByteArray) : ElBr × List ByteArray:=if brvB b = true ∧ ls.length ≤ 30 then blsTo b ls ls.length else (zBr0,[])
theorem blsR_valid {b : ElBr} {ls : List ByteArray} : fdB (blsR b ls).1.2.1 = true ∧ fvB (blsR b ls).1.2.2.1 = true ∧ (blsR b ls).2.length ≤ 30:=by
 unfold blsR
 split
 ·next h => exact ⟨(brv_of (blsTo_valid h.1 ls _)).2.1,(brv_of (blsTo_valid h.1 ls _)).2.2.1,by rw [blsTo_len]; exact h.2⟩
 ·exact ⟨fd_mk (by simp [zBr0]) (fun x hx => by cases hx) List.Pairwise.nil,fv_nil,by simp⟩
def OutBls (base : Nat) (r : ElBr × List ByteArray) (w : World) (e : Ending) (w' : World) : Prop:=∃ (I' : Option Addr) (ci' : Nat) (F' : Option Addr) (cf' : Nat) (R : Option Addr) (cR : Nat),e = .returned (.tuple #[.agg #[.string r.1.1.1,.string r.1.1.2,.slice I' r.1.2.1.length ci',.slice F' r.1.2.2.1.length cf',.int .i64 r.1.2.2.2],.slice R r.2.length cR]) ∧ OwnE 4 encItem 69 w' base I' ci' r.1.2.1 ∧ OwnE 2 encHandle 29 w' base F' cf' r.1.2.2.1 ∧ OwnE 1 encStr 9 w' base R cR r.2 ∧ Below w.heap.size w w' 
theorem kept_of {A R : Option Addr} (h : ∀ b,blk A = some b → blk R ≠ some b) : blk A = none ∨ blk A ≠ blk R:=by
 cases hA : blk A with
 | none => exact .inl rfl
 | some b => exact .inr (fun e => h b hA e.symm)
end Go.Proofs.YtfnmlffpnmmcdaaGreatDoor
namespace Go.Proofs.YtfnmlffpnmmcdaaGreatDoor
set_option maxRecDepth 100000
open Go.RowKit
set_option maxHeartbeats 6400000 in
theorem implBridgeLines_any (ls : List ByteArray) (A : Option Addr) (ca : Nat) (who : ElHandle) (is : List ElItem) (fs : List ElHandle) (nx : Int) (I : Option Addr) (ci : Nat) (F : Option Addr) (cf B : Nat) (w : World) (hA : RdE 1 encStr w B A ls) (hI : RdE 4 encItem w B I is) (hF : RdE 2 encHandle w B F fs) (hB : B ≤ w.heap.size) (hll : ls.length ≤ 1048576) (hl : is.length ≤ 1048576) (hlf : fs.length ≤ 1048576) (hci : is.length ≤ ci) (hlz : ∀ k,k < ls.length → (gt ls k).size ≤ maxLen) (hiz : ∀ k,k < is.length → (gt is k).1.size ≤ maxLen ∧ (gt is k).2.1.size ≤ maxLen ∧ (gt is k).2.2.1.size ≤ maxLen) (hfz : ∀ k,k < fs.length → (gt fs k).1.size ≤ maxLen ∧ (gt fs k).2.size ≤ maxLen) (hw0 : who.1.size ≤ maxLen) (hw1 : who.2.size ≤ maxLen) (hT : KwTab w) (hE : EsTab w) :
    Calls Tryz.prog 24 #[.agg #[.string who.1,.string who.2,.slice I is.length ci,.slice F fs.length cf,.int .i64 nx],.slice A ls.length ca] w (OutBls w.heap.size (blsR (who,is,fs,nx) ls) w):=by
 have zw : (w.alloc (.cells #[.string who.1,.string who.2,.slice I is.length ci,.slice F fs.length cf,.int .i64 nx] 33)).heap.size = w.heap.size + 1:=by simp
 have hbA : Below w.heap.size w ((w.alloc (.cells #[.string who.1,.string who.2,.slice I is.length ci,.slice F fs.length cf,.int .i64 nx] 33)).alloc (.cells #[.string { data:=#[] },.string { data:=#[] },.slice none 0 0,.slice none 0 0,.int .i64 0] 33)):=((Below.refl _ _).alloc (Nat.le_refl _) _).alloc (by simp) _;have zA : ((w.alloc (.cells #[.string who.1,.string who.2,.slice I is.length ci,.slice F fs.length cf,.int .i64 nx] 33)).alloc (.cells #[.string { data:=#[] },.string { data:=#[] },.slice none 0 0,.slice none 0 0,.int .i64 0] 33)).heap.size = w.heap.size + 2:=by simp
 have oB : Own ((w.alloc (.cells #[.string who.1,.string who.2,.slice I is.length ci,.slice F fs.length cf,.int .i64 nx] 33)).alloc (.cells #[.string { data:=#[] },.string { data:=#[] },.slice none 0 0,.slice none 0 0,.int .i64 0] 33)) w.heap.size 33 5 (some ⟨w.heap.size,0,none⟩) 1 1 (bxC who I is.length ci F fs.length cf nx):=Own.below (Own.lit w 33 5 1 #[Value.string who.1,Value.string who.2,Value.slice I is.length ci,Value.slice F fs.length cf,Value.int .i64 nx] (bxC who I is.length ci F fs.length cf nx) (by simp only [maxLen]; omega) rfl) ((Below.refl _ _).alloc (Nat.le_refl _) _);have oR : Own ((w.alloc (.cells #[.string who.1,.string who.2,.slice I is.length ci,.slice F fs.length cf,.int .i64 nx] 33)).alloc (.cells #[.string { data:=#[] },.string { data:=#[] },.slice none 0 0,.slice none 0 0,.int .i64 0] 33)) (w.heap.size + 1) 33 5 (some ⟨w.heap.size + 1,0,none⟩) 1 1 zBr':=by
  have:=Own.lit (w.alloc (.cells #[.string who.1,.string who.2,.slice I is.length ci,.slice F fs.length cf,.int .i64 nx] 33)) 33 5 1 #[Value.string { data:=#[] },Value.string { data:=#[] },Value.slice none 0 0,Value.slice none 0 0,Value.int .i64 0] zBr' (by simp only [maxLen]; omega) rfl;rw [zw] at this;exact this
 clear zw;have HT:=Lib.hid hT;have HE:=Lib.hid hE;have HIZ:=Lib.hid hiz;have HFZ:=Lib.hid hfz;have HLZ:=Lib.hid hlz;clear hT hE hiz hfz hlz;have a0:=(show _ = some (Value.string who.1) from oB.cell rfl (j:=0) (by omega));have a1:=(show _ = some (Value.string who.2) from oB.cell rfl (j:=1) (by omega));have a2:=(show _ = some (Value.slice I is.length ci) from oB.cell rfl (j:=2) (by omega));have a3:=(show _ = some (Value.slice F fs.length cf) from oB.cell rfl (j:=3) (by omega));have a4:=(show _ = some (Value.int .i64 nx) from oB.cell rfl (j:=4) (by omega));go_enter Tryz.func24,Tryz.ntmps24
 go_wp2_with fail
 generalize ((w.alloc (.cells #[.string who.1,.string who.2,.slice I is.length ci,.slice F fs.length cf,.int .i64 nx] 33)).alloc (.cells #[.string { data:=#[] },.string { data:=#[] },.slice none 0 0,.slice none 0 0,.int .i64 0] 33)) = wA at *
 refine (implBridgeValid_any who I ci is F cf fs nx wA B (hI.below (hbA.mono hB)) (hF.below (hbA.mono hB)) (Nat.le_trans hB hbA.size) (by omega) (by omega) hci HIZ.out HFZ.out hw0 hw1).mono ?_;rintro e w1 ⟨rfl,b1⟩;have k1:=hbA.trans (b1.mono hbA.size);have oB1:=Own.below oB b1;have oR1:=Own.below oR b1;have z1 : w.heap.size + 1 < w1.heap.size:=by have:=b1.size; omega
 clear a0 a1 a2 a3 a4;cases hv : brB who is fs nx
 ·have HQ : Hid (blsR (who,is,fs,nx) ls = (zBr0,[])):=Lib.hid (if_neg (by rintro ⟨h,_⟩; have h : brB who is fs nx = true:=h; rw [hv] at h; cases h))
  clear hv;have r0:=(show _ = some (Value.string { data:=#[] }) from oR1.cell rfl (j:=0) (by omega));have rf0:=oR1.frozen rfl 0;have r1:=(show _ = some (Value.string { data:=#[] }) from oR1.cell rfl (j:=1) (by omega));have rf1:=oR1.frozen rfl 1;have r2:=(show _ = some (Value.slice none 0 0) from oR1.cell rfl (j:=2) (by omega));have rf2:=oR1.frozen rfl 2;have r3:=(show _ = some (Value.slice none 0 0) from oR1.cell rfl (j:=3) (by omega));have rf3:=oR1.frozen rfl 3;have r4:=(show _ = some (Value.int .i64 0) from oR1.cell rfl (j:=4) (by omega));have rf4:=oR1.frozen rfl 4
  go_wp2_with fail
  refine bodyPost_ret (v:=.tuple #[.agg #[.string { data:=#[] },.string { data:=#[] },.slice none 0 0,.slice none 0 0,.int .i64 0],.slice none 0 0]) ?_ rfl ?_
  ·simp [results,Tryz.results24,go_sem,r0,r1,r2,r3,r4]
  ·rw [HQ.out]
   exact ⟨none,0,none,0,none,0,rfl,Own.nil _ _ _ _ _,Own.nil _ _ _ _ _,Own.nil _ _ _ _ _,(by first | exact k1 | exact (((((k1.setCell (p:=⟨w.heap.size + 1,0,none⟩) (by show w.heap.size ≤ w.heap.size + 1; omega) (Value.string { data:=#[] })).setCell (p:=⟨w.heap.size + 1,1,none⟩) (by show w.heap.size ≤ w.heap.size + 1; omega) (Value.string { data:=#[] })).setCell (p:=⟨w.heap.size + 1,2,none⟩) (by show w.heap.size ≤ w.heap.size + 1; omega) (Value.slice none 0 0)).setCell (p:=⟨w.heap.size + 1,3,none⟩) (by show w.heap.size ≤ w.heap.size + 1; omega) (Value.slice none 0 0)).setCell (p:=⟨w.heap.size + 1,4,none⟩) (by show w.heap.size ≤ w.heap.size + 1; omega) (Value.int .i64 0)))⟩
 ·by_cases h30 : ls.length ≤ 30
  ·have g30 : decide ((30 : Int) < (ls.length : Int)) = false:=decide_eq_false (by omega)
   have HBL : Hid (blsR (who,is,fs,nx) ls = blsTo (who,is,fs,nx) ls ls.length):=Lib.hid (if_pos ⟨hv,h30⟩);have HB:=Lib.hid (show brvB (who,is,fs,nx) = true from hv);clear hv;have a0:=(show _ = some (Value.string who.1) from oB1.cell rfl (j:=0) (by omega));have a1:=(show _ = some (Value.string who.2) from oB1.cell rfl (j:=1) (by omega));have a2:=(show _ = some (Value.slice I is.length ci) from oB1.cell rfl (j:=2) (by omega));have a3:=(show _ = some (Value.slice F fs.length cf) from oB1.cell rfl (j:=3) (by omega));have a4:=(show _ = some (Value.int .i64 nx) from oB1.cell rfl (j:=4) (by omega))
   go_wp2_with fail
   refine (copyBridge_any who I ci is F cf fs nx w1 B (hI.below (k1.mono hB)) (hF.below (k1.mono hB)) (Nat.le_trans hB k1.size) hl hlf).mono ?_;rintro e w2 ⟨I',ci',F',cf',rfl,o1,o2,b2⟩;have k2:=k1.trans (b2.mono k1.size);have oB2:=Own.below oB1 b2;have oR2:=Own.below oR1 b2;clear a0 a1 a2 a3 a4 hI hF;have a0:=(show _ = some (Value.string who.1) from oB2.cell rfl (j:=0) (by omega));have a1:=(show _ = some (Value.string who.2) from oB2.cell rfl (j:=1) (by omega));have a2:=(show _ = some (Value.slice I is.length ci) from oB2.cell rfl (j:=2) (by omega));have a3:=(show _ = some (Value.slice F fs.length cf) from oB2.cell rfl (j:=3) (by omega));have a4:=(show _ = some (Value.int .i64 nx) from oB2.cell rfl (j:=4) (by omega));have pI2:=o1;have pF2:=o2;have hnpI : ∀ b,blk I' = some b → b ≠ w.heap.size:=fun b hb => by have:=(Own.lt o1 hb).1; omega
   have hnpF : ∀ b,blk F' = some b → b ≠ w.heap.size:=fun b hb => by have:=(Own.lt o2 hb).1; omega
   have fz0:=oB2.frozen rfl 0;have fz1:=oB2.frozen rfl 1;have fz2:=oB2.frozen rfl 2;have fz3:=oB2.frozen rfl 3;have fz4:=oB2.frozen rfl 4;have s0:=Own.set oB2 rfl (j:=0) (Value.string who.1);have s1:=Own.set s0.1 rfl (j:=1) (Value.string who.2);have s2:=Own.set s1.1 rfl (j:=2) (Value.slice I' is.length ci');have s3:=Own.set s2.1 rfl (j:=3) (Value.slice F' fs.length cf');have s4:=Own.set s3.1 rfl (j:=4) (Value.int .i64 nx);have pI3:=(own_setN (own_setN (own_setN (own_setN (own_setN pI2 w.heap.size 0 (Value.string who.1) hnpI) w.heap.size 1 (Value.string who.2) hnpI) w.heap.size 2 (Value.slice I' is.length ci') hnpI) w.heap.size 3 (Value.slice F' fs.length cf') hnpI) w.heap.size 4 (Value.int .i64 nx) hnpI);have pF3:=(own_setN (own_setN (own_setN (own_setN (own_setN pF2 w.heap.size 0 (Value.string who.1) hnpF) w.heap.size 1 (Value.string who.2) hnpF) w.heap.size 2 (Value.slice I' is.length ci') hnpF) w.heap.size 3 (Value.slice F' fs.length cf') hnpF) w.heap.size 4 (Value.int .i64 nx) hnpF);have k3:=(((((k2.setCell (p:=⟨w.heap.size,0,none⟩) (by first | exact Nat.le_refl _ | (show w.heap.size ≤ _; omega)) (Value.string who.1)).setCell (p:=⟨w.heap.size,1,none⟩) (by first | exact Nat.le_refl _ | (show w.heap.size ≤ _; omega)) (Value.string who.2)).setCell (p:=⟨w.heap.size,2,none⟩) (by first | exact Nat.le_refl _ | (show w.heap.size ≤ _; omega)) (Value.slice I' is.length ci')).setCell (p:=⟨w.heap.size,3,none⟩) (by first | exact Nat.le_refl _ | (show w.heap.size ≤ _; omega)) (Value.slice F' fs.length cf')).setCell (p:=⟨w.heap.size,4,none⟩) (by first | exact Nat.le_refl _ | (show w.heap.size ≤ _; omega)) (Value.int .i64 nx));have oR3:=(own_setN (own_setN (own_setN (own_setN (own_setN oR2 w.heap.size 0 (Value.string who.1) (fun b hb => by simp [blk] at hb; omega)) w.heap.size 1 (Value.string who.2) (fun b hb => by simp [blk] at hb; omega)) w.heap.size 2 (Value.slice I' is.length ci') (fun b hb => by simp [blk] at hb; omega)) w.heap.size 3 (Value.slice F' fs.length cf') (fun b hb => by simp [blk] at hb; omega)) w.heap.size 4 (Value.int .i64 nx) (fun b hb => by simp [blk] at hb; omega));have oB3 : Own (((((w2.setCell ⟨w.heap.size,0,none⟩ (Value.string who.1)).setCell ⟨w.heap.size,1,none⟩ (Value.string who.2)).setCell ⟨w.heap.size,2,none⟩ (Value.slice I' is.length ci')).setCell ⟨w.heap.size,3,none⟩ (Value.slice F' fs.length cf')).setCell ⟨w.heap.size,4,none⟩ (Value.int .i64 nx)) w.heap.size 33 5 (some ⟨w.heap.size,0,none⟩) 1 1 (bxC who I' is.length ci' F' fs.length cf' nx):=Own.congr s4.1 (fun j hj => by rcases (by omega : j = 0 ∨ j = 1 ∨ j = 2 ∨ j = 3 ∨ j = 4) with rfl | rfl | rfl | rfl | rfl <;> rfl);have z3W : w2.heap.size ≤ (((((w2.setCell ⟨w.heap.size,0,none⟩ (Value.string who.1)).setCell ⟨w.heap.size,1,none⟩ (Value.string who.2)).setCell ⟨w.heap.size,2,none⟩ (Value.slice I' is.length ci')).setCell ⟨w.heap.size,3,none⟩ (Value.slice F' fs.length cf')).setCell ⟨w.heap.size,4,none⟩ (Value.int .i64 nx)).heap.size:=by simp
   go_upto_region 4 with fail
   clear s0 s1 s2 s3 s4 fz0 fz1 fz2 fz3 fz4;generalize (((((w2.setCell ⟨w.heap.size,0,none⟩ (Value.string who.1)).setCell ⟨w.heap.size,1,none⟩ (Value.string who.2)).setCell ⟨w.heap.size,2,none⟩ (Value.slice I' is.length ci')).setCell ⟨w.heap.size,3,none⟩ (Value.slice F' fs.length cf')).setCell ⟨w.heap.size,4,none⟩ (Value.int .i64 nx)) = w3 at *
   clear a0 a1 a2 a3 a4 pI2 pF2 oB2 oR2 o1 o2 hnpI hnpF;have hz3 : w1.heap.size ≤ w3.heap.size:=Nat.le_trans b2.size z3W;have zk1:=k1.size
   go_wp2_with fail
   go_loopw [6,8,9,23] (fun v _ _ i wr => ∃ (k : Nat) (x : ElBr) (as_ : List ByteArray) (I2 : Option Addr) (c2 : Nat) (F2 : Option Addr) (d2 : Nat) (R : Option Addr) (cR : Nat),k ≤ ls.length ∧ v = .slice R as_.length cR ∧ i = .int .i64 k ∧ Hid ((x,as_) = blsTo (who,is,fs,nx) ls k) ∧ as_.length ≤ k ∧ Hid (brvB x = true) ∧ Own wr w.heap.size 33 5 (some ⟨w.heap.size,0,none⟩) 1 1 (bxC x.1 I2 x.2.1.length c2 F2 x.2.2.1.length d2 x.2.2.2) ∧ OwnE 4 encItem 69 wr w1.heap.size I2 c2 x.2.1 ∧ OwnE 2 encHandle 29 wr w1.heap.size F2 d2 x.2.2.1 ∧ OwnE 1 encStr 9 wr w1.heap.size R cR as_ ∧ Own wr (w.heap.size + 1) 33 5 (some ⟨w.heap.size + 1,0,none⟩) 1 1 zBr' ∧ w1.heap.size ≤ wr.heap.size ∧ Below w.heap.size w wr) (fun _ _ _ i _ => ls.length - (intOf i).toNat)
   case atStart => exact ⟨0,(who,is,fs,nx),[],I',ci',F',cf',none,0,Nat.zero_le _,rfl,rfl,Lib.hid rfl,Nat.le_refl _,HB,oB3,pI3,pF3,Own.nil _ _ _ _ _,oR3,hz3,k3⟩
   case round =>
    clear oB3 pI3 pF3 oR3 hz3 k3 z3W;obtain ⟨k,x,as_,I2,c2,F2,d2,R,cR,hk,rfl,rfl,hx,hal,hxv,oBr,pIr,pFr,gr,oRr,zr1,kr⟩:=hrel;have zr:=kr.size;have HXV:=Lib.hid (brv_of hxv.out);have xi8:=fd_len HXV.out.2.1;have xf10:=(Fv.of HXV.out.2.2.1).1;by_cases hlt : k < ls.length
    ·obtain ⟨b,off,rfl,hb,hc⟩:=(hA.below (kr.mono hB)).str (by omega)
     have c0:=hc k hlt;have hzl:=HLZ.out k hlt;clear hc;have hx1 : x.1.1.size ≤ maxLen:=by have:=(hv_sizes HXV.out.1).1.2; unfold maxLen; omega
     have hx2 : x.1.2.size ≤ maxLen:=by have:=(hv_sizes HXV.out.1).2.2; unfold maxLen; omega
     have HST:=Lib.hid (blsTo_step hx.out);have a0:=(show _ = some (Value.string x.1.1) from oBr.cell rfl (j:=0) (by omega));have a1:=(show _ = some (Value.string x.1.2) from oBr.cell rfl (j:=1) (by omega));have a2:=(show _ = some (Value.slice I2 x.2.1.length c2) from oBr.cell rfl (j:=2) (by omega));have a3:=(show _ = some (Value.slice F2 x.2.2.1.length d2) from oBr.cell rfl (j:=3) (by omega));have a4:=(show _ = some (Value.int .i64 x.2.2.2) from oBr.cell rfl (j:=4) (by omega))
     go_wp2_with fail
     refine (implBridgeLine_any (gt ls k) x.1 x.2.1 x.2.2.1 x.2.2.2 I2 c2 F2 d2 wr.heap.size wr (OwnE.rd pIr) (OwnE.rd pFr) (Nat.le_refl _) (by omega) (by omega) (OwnE.capLe pIr) (fd_sz HXV.out.2.1) (fv_sz HXV.out.2.2.1) hx1 hx2 hzl (HT.out.below kr (Nat.le_refl _)) (HE.out.below kr (Nat.le_refl _))).mono ?_;rw [show blR (x.1,x.2.1,x.2.2.1,x.2.2.2) (gt ls k) = blOf x (gt ls k) from if_pos hxv.out];have hrv:=Lib.hid (blOf_valid (line:=gt ls k) hxv.out);generalize blOf x (gt ls k) = r at *
     rintro e w5 ⟨I3,c3,F3,d3,rfl,pI5,pF5,b5⟩;have k5:=kr.trans (b5.mono kr.size);have oB5:=Own.below oBr b5;have oR5:=Own.below oRr b5;have g5:=Own.below gr b5;have z5:=b5.size;clear a0 a1 a2 a3 a4 c0;have a0:=(show _ = some (Value.string x.1.1) from oB5.cell rfl (j:=0) (by omega));have a1:=(show _ = some (Value.string x.1.2) from oB5.cell rfl (j:=1) (by omega));have a2:=(show _ = some (Value.slice I2 x.2.1.length c2) from oB5.cell rfl (j:=2) (by omega));have a3:=(show _ = some (Value.slice F2 x.2.2.1.length d2) from oB5.cell rfl (j:=3) (by omega));have a4:=(show _ = some (Value.int .i64 x.2.2.2) from oB5.cell rfl (j:=4) (by omega));have hnpI : ∀ b,blk I3 = some b → b ≠ w.heap.size:=fun b hb => by have:=(Own.lt pI5 hb).1; omega
     have hnpF : ∀ b,blk F3 = some b → b ≠ w.heap.size:=fun b hb => by have:=(Own.lt pF5 hb).1; omega
     have hng : ∀ b,blk R = some b → b ≠ w.heap.size:=fun b hb => by have:=(Own.lt g5 hb).1; omega
     have fz0:=oB5.frozen rfl 0;have fz1:=oB5.frozen rfl 1;have fz2:=oB5.frozen rfl 2;have fz3:=oB5.frozen rfl 3;have fz4:=oB5.frozen rfl 4;have s0:=Own.set oB5 rfl (j:=0) (Value.string r.1.1.1);have s1:=Own.set s0.1 rfl (j:=1) (Value.string r.1.1.2);have s2:=Own.set s1.1 rfl (j:=2) (Value.slice I3 r.1.2.1.length c3);have s3:=Own.set s2.1 rfl (j:=3) (Value.slice F3 r.1.2.2.1.length d3);have s4:=Own.set s3.1 rfl (j:=4) (Value.int .i64 r.1.2.2.2);have pI6:=(own_setN (own_setN (own_setN (own_setN (own_setN pI5 w.heap.size 0 (Value.string r.1.1.1) hnpI) w.heap.size 1 (Value.string r.1.1.2) hnpI) w.heap.size 2 (Value.slice I3 r.1.2.1.length c3) hnpI) w.heap.size 3 (Value.slice F3 r.1.2.2.1.length d3) hnpI) w.heap.size 4 (Value.int .i64 r.1.2.2.2) hnpI);have pF6:=(own_setN (own_setN (own_setN (own_setN (own_setN pF5 w.heap.size 0 (Value.string r.1.1.1) hnpF) w.heap.size 1 (Value.string r.1.1.2) hnpF) w.heap.size 2 (Value.slice I3 r.1.2.1.length c3) hnpF) w.heap.size 3 (Value.slice F3 r.1.2.2.1.length d3) hnpF) w.heap.size 4 (Value.int .i64 r.1.2.2.2) hnpF);have g6:=(own_setN (own_setN (own_setN (own_setN (own_setN g5 w.heap.size 0 (Value.string r.1.1.1) hng) w.heap.size 1 (Value.string r.1.1.2) hng) w.heap.size 2 (Value.slice I3 r.1.2.1.length c3) hng) w.heap.size 3 (Value.slice F3 r.1.2.2.1.length d3) hng) w.heap.size 4 (Value.int .i64 r.1.2.2.2) hng);have k6:=(((((k5.setCell (p:=⟨w.heap.size,0,none⟩) (by first | exact Nat.le_refl _ | (show w.heap.size ≤ _; omega)) (Value.string r.1.1.1)).setCell (p:=⟨w.heap.size,1,none⟩) (by first | exact Nat.le_refl _ | (show w.heap.size ≤ _; omega)) (Value.string r.1.1.2)).setCell (p:=⟨w.heap.size,2,none⟩) (by first | exact Nat.le_refl _ | (show w.heap.size ≤ _; omega)) (Value.slice I3 r.1.2.1.length c3)).setCell (p:=⟨w.heap.size,3,none⟩) (by first | exact Nat.le_refl _ | (show w.heap.size ≤ _; omega)) (Value.slice F3 r.1.2.2.1.length d3)).setCell (p:=⟨w.heap.size,4,none⟩) (by first | exact Nat.le_refl _ | (show w.heap.size ≤ _; omega)) (Value.int .i64 r.1.2.2.2));have oR6:=(own_setN (own_setN (own_setN (own_setN (own_setN oR5 w.heap.size 0 (Value.string r.1.1.1) (fun b hb => by simp [blk] at hb; omega)) w.heap.size 1 (Value.string r.1.1.2) (fun b hb => by simp [blk] at hb; omega)) w.heap.size 2 (Value.slice I3 r.1.2.1.length c3) (fun b hb => by simp [blk] at hb; omega)) w.heap.size 3 (Value.slice F3 r.1.2.2.1.length d3) (fun b hb => by simp [blk] at hb; omega)) w.heap.size 4 (Value.int .i64 r.1.2.2.2) (fun b hb => by simp [blk] at hb; omega));have oB6 : Own (((((w5.setCell ⟨w.heap.size,0,none⟩ (Value.string r.1.1.1)).setCell ⟨w.heap.size,1,none⟩ (Value.string r.1.1.2)).setCell ⟨w.heap.size,2,none⟩ (Value.slice I3 r.1.2.1.length c3)).setCell ⟨w.heap.size,3,none⟩ (Value.slice F3 r.1.2.2.1.length d3)).setCell ⟨w.heap.size,4,none⟩ (Value.int .i64 r.1.2.2.2)) w.heap.size 33 5 (some ⟨w.heap.size,0,none⟩) 1 1 (bxC r.1.1 I3 r.1.2.1.length c3 F3 r.1.2.2.1.length d3 r.1.2.2.2):=Own.congr s4.1 (fun j hj => by rcases (by omega : j = 0 ∨ j = 1 ∨ j = 2 ∨ j = 3 ∨ j = 4) with rfl | rfl | rfl | rfl | rfl <;> rfl);have z6W : w5.heap.size ≤ (((((w5.setCell ⟨w.heap.size,0,none⟩ (Value.string r.1.1.1)).setCell ⟨w.heap.size,1,none⟩ (Value.string r.1.1.2)).setCell ⟨w.heap.size,2,none⟩ (Value.slice I3 r.1.2.1.length c3)).setCell ⟨w.heap.size,3,none⟩ (Value.slice F3 r.1.2.2.1.length d3)).setCell ⟨w.heap.size,4,none⟩ (Value.int .i64 r.1.2.2.2)).heap.size:=by simp
     go_upto_region 10 with fail
     clear s0 s1 s2 s3 s4 fz0 fz1 fz2 fz3 fz4;generalize (((((w5.setCell ⟨w.heap.size,0,none⟩ (Value.string r.1.1.1)).setCell ⟨w.heap.size,1,none⟩ (Value.string r.1.1.2)).setCell ⟨w.heap.size,2,none⟩ (Value.slice I3 r.1.2.1.length c3)).setCell ⟨w.heap.size,3,none⟩ (Value.slice F3 r.1.2.2.1.length d3)).setCell ⟨w.heap.size,4,none⟩ (Value.int .i64 r.1.2.2.2)) = w6 at *
     clear a0 a1 a2 a3 a4 hnpI hnpF hng oB5 oR5 pI5 pF5 g5;have z61 : w1.heap.size ≤ w6.heap.size:=by omega
     go_wp2_with (at_builtin; refine wpList_app rfl (.tmp 33) (.tmp 35) _ rfl w1.heap.size 9 _ 1 16 Tryz.underlying51 info_String rfl (by omega) R (some ⟨w6.heap.size,0,none⟩) as_.length cR 1 1 (w6.heap.size + 1) (cE 1 encStr as_) (encStr r.2) rfl rfl (Own.below g6 ((Below.refl _ _).alloc (Nat.le_refl _) _)) (rd_elem _ _ _ _ (fun j hj => by rcases (by omega : j = 0) with rfl; rfl)) (fun _ _ => encStr_one _ _) (by simp only [maxLen]; omega) (by omega) (by first | omega | (simp; omega)) ?_; intro R7 cR7 w7 o7 g7)
     go_roundw
     case rel =>
      have bA : ∀ o,Below w6.heap.size w6 (w6.alloc o):=fun o => (Below.refl _ _).alloc (Nat.le_refl _) o
      have b67:=((Below.refl w1.heap.size w6).alloc z61 _).trans (grown_below g7 (fun b hb => (Own.lt g6 hb).1) (by first | omega | (simp; omega)));refine ⟨k + 1,r.1,as_ ++ [r.2],I3,c3,F3,d3,R7,cR7,by omega,by rw [List.length_append]; rfl,by go_num,HST,by rw [List.length_append]; simp; omega,hrv,Own.kept (Own.below oB6 (bA _)) g7 (kept_of (own_ne oB6 g6 (by decide))),Own.more (Own.kept (Own.below pI6 (bA _)) g7 (kept_of (own_ne pI6 g6 (by decide)))) (by omega),Own.more (Own.kept (Own.below pF6 (bA _)) g7 (kept_of (own_ne pF6 g6 (by decide)))) (by omega),OwnE.snoc (by omega) o7,Own.kept (Own.below oR6 (bA _)) g7 (kept_of (own_ne oR6 g6 (by decide))),Nat.le_trans z61 b67.size,k6.trans (b67.mono (by omega))⟩
     case measure => simp [intOf]; omega
    ·obtain rfl : k = ls.length:=by omega
     have HQ : Hid (blsR (who,is,fs,nx) ls = (x,as_)):=Lib.hid (HBL.out.trans hx.out.symm);have hN1 : ∀ b,blk I2 = some b → b ≠ w.heap.size + 1:=fun b hb => by have:=(Own.lt pIr hb).1; omega
     have hN2 : ∀ b,blk F2 = some b → b ≠ w.heap.size + 1:=fun b hb => by have:=(Own.lt pFr hb).1; omega
     have hN3 : ∀ b,blk R = some b → b ≠ w.heap.size + 1:=fun b hb => by have:=(Own.lt gr hb).1; omega
     have a0:=(show _ = some (Value.string x.1.1) from oBr.cell rfl (j:=0) (by omega));have a1:=(show _ = some (Value.string x.1.2) from oBr.cell rfl (j:=1) (by omega));have a2:=(show _ = some (Value.slice I2 x.2.1.length c2) from oBr.cell rfl (j:=2) (by omega));have a3:=(show _ = some (Value.slice F2 x.2.2.1.length d2) from oBr.cell rfl (j:=3) (by omega));have a4:=(show _ = some (Value.int .i64 x.2.2.2) from oBr.cell rfl (j:=4) (by omega));have r0:=(show _ = some (Value.string { data:=#[] }) from oRr.cell rfl (j:=0) (by omega));have rf0:=oRr.frozen rfl 0;have r1:=(show _ = some (Value.string { data:=#[] }) from oRr.cell rfl (j:=1) (by omega));have rf1:=oRr.frozen rfl 1;have r2:=(show _ = some (Value.slice none 0 0) from oRr.cell rfl (j:=2) (by omega));have rf2:=oRr.frozen rfl 2;have r3:=(show _ = some (Value.slice none 0 0) from oRr.cell rfl (j:=3) (by omega));have rf3:=oRr.frozen rfl 3;have r4:=(show _ = some (Value.int .i64 0) from oRr.cell rfl (j:=4) (by omega));have rf4:=oRr.frozen rfl 4
     go_wp2_with fail
     refine bodyPost_ret (v:=.tuple #[.agg #[.string x.1.1,.string x.1.2,.slice I2 x.2.1.length c2,.slice F2 x.2.2.1.length d2,.int .i64 x.2.2.2],.slice R as_.length cR]) ?_ rfl ?_
     ·simp [results,Tryz.results24,go_sem,r0,r1,r2,r3,r4]
     ·rw [HQ.out]
      exact ⟨I2,c2,F2,d2,R,cR,rfl,Own.more (own_setN (own_setN (own_setN (own_setN (own_setN pIr (w.heap.size + 1) 0 (Value.string x.1.1) hN1) (w.heap.size + 1) 1 (Value.string x.1.2) hN1) (w.heap.size + 1) 2 (Value.slice I2 x.2.1.length c2) hN1) (w.heap.size + 1) 3 (Value.slice F2 x.2.2.1.length d2) hN1) (w.heap.size + 1) 4 (Value.int .i64 x.2.2.2) hN1) (by omega),Own.more (own_setN (own_setN (own_setN (own_setN (own_setN pFr (w.heap.size + 1) 0 (Value.string x.1.1) hN2) (w.heap.size + 1) 1 (Value.string x.1.2) hN2) (w.heap.size + 1) 2 (Value.slice I2 x.2.1.length c2) hN2) (w.heap.size + 1) 3 (Value.slice F2 x.2.2.1.length d2) hN2) (w.heap.size + 1) 4 (Value.int .i64 x.2.2.2) hN2) (by omega),Own.more (own_setN (own_setN (own_setN (own_setN (own_setN gr (w.heap.size + 1) 0 (Value.string x.1.1) hN3) (w.heap.size + 1) 1 (Value.string x.1.2) hN3) (w.heap.size + 1) 2 (Value.slice I2 x.2.1.length c2) hN3) (w.heap.size + 1) 3 (Value.slice F2 x.2.2.1.length d2) hN3) (w.heap.size + 1) 4 (Value.int .i64 x.2.2.2) hN3) (by omega),(((((kr.setCell (p:=⟨w.heap.size + 1,0,none⟩) (by show w.heap.size ≤ w.heap.size + 1; omega) (Value.string x.1.1)).setCell (p:=⟨w.heap.size + 1,1,none⟩) (by show w.heap.size ≤ w.heap.size + 1; omega) (Value.string x.1.2)).setCell (p:=⟨w.heap.size + 1,2,none⟩) (by show w.heap.size ≤ w.heap.size + 1; omega) (Value.slice I2 x.2.1.length c2)).setCell (p:=⟨w.heap.size + 1,3,none⟩) (by show w.heap.size ≤ w.heap.size + 1; omega) (Value.slice F2 x.2.2.1.length d2)).setCell (p:=⟨w.heap.size + 1,4,none⟩) (by show w.heap.size ≤ w.heap.size + 1; omega) (Value.int .i64 x.2.2.2))⟩
  ·have g30 : decide ((30 : Int) < (ls.length : Int)) = true:=decide_eq_true (by omega)
   have HQ : Hid (blsR (who,is,fs,nx) ls = (zBr0,[])):=Lib.hid (if_neg (fun h => h30 h.2));clear hv;have r0:=(show _ = some (Value.string { data:=#[] }) from oR1.cell rfl (j:=0) (by omega));have rf0:=oR1.frozen rfl 0;have r1:=(show _ = some (Value.string { data:=#[] }) from oR1.cell rfl (j:=1) (by omega));have rf1:=oR1.frozen rfl 1;have r2:=(show _ = some (Value.slice none 0 0) from oR1.cell rfl (j:=2) (by omega));have rf2:=oR1.frozen rfl 2;have r3:=(show _ = some (Value.slice none 0 0) from oR1.cell rfl (j:=3) (by omega));have rf3:=oR1.frozen rfl 3;have r4:=(show _ = some (Value.int .i64 0) from oR1.cell rfl (j:=4) (by omega));have rf4:=oR1.frozen rfl 4
   go_wp2_with fail
   refine bodyPost_ret (v:=.tuple #[.agg #[.string { data:=#[] },.string { data:=#[] },.slice none 0 0,.slice none 0 0,.int .i64 0],.slice none 0 0]) ?_ rfl ?_
   ·simp [results,Tryz.results24,go_sem,r0,r1,r2,r3,r4]
   ·rw [HQ.out]
    exact ⟨none,0,none,0,none,0,rfl,Own.nil _ _ _ _ _,Own.nil _ _ _ _ _,Own.nil _ _ _ _ _,(by first | exact k1 | exact (((((k1.setCell (p:=⟨w.heap.size + 1,0,none⟩) (by show w.heap.size ≤ w.heap.size + 1; omega) (Value.string { data:=#[] })).setCell (p:=⟨w.heap.size + 1,1,none⟩) (by show w.heap.size ≤ w.heap.size + 1; omega) (Value.string { data:=#[] })).setCell (p:=⟨w.heap.size + 1,2,none⟩) (by show w.heap.size ≤ w.heap.size + 1; omega) (Value.slice none 0 0)).setCell (p:=⟨w.heap.size + 1,3,none⟩) (by show w.heap.size ≤ w.heap.size + 1; omega) (Value.slice none 0 0)).setCell (p:=⟨w.heap.size + 1,4,none⟩) (by show w.heap.size ≤ w.heap.size + 1; omega) (Value.int .i64 0)))⟩
end Go.Proofs.YtfnmlffpnmmcdaaGreatDoor
namespace Go.Proofs.YtfnmlffpnmmcdaaGreatDoor
set_option maxRecDepth 100000
open Go.RowKit
def allAncX (l : List Oper) (p : Nat) : Nat → List Nat → Bool
 | 0,_ => true
 | j + 1,S => if j = p then allAncX l p j S else S.contains j && allAncX l p j (match l[j]? with | some o => edgesL o ++ S | none => S)
theorem allAncX_sound {l : List Oper} {p : Nat} {q : Nat → Prop} (hdc : ∀ i o,l[i]? = some o → q i → ∀ j ∈ edgesL o,q j) : ∀ {n : Nat} {S : List Nat},allAncX l p n S = true → (∀ j ∈ S,q j) → ∀ j,j < n → j ≠ p → q j
 | 0,_,_,_,j,hj,_ => absurd hj (by omega)
 | n + 1,S,h,hS,j,hj,hjp => by
  rw [allAncX] at h
  split at h
  ·next hn =>
   rcases Nat.lt_succ_iff_lt_or_eq.1 hj with h1 | rfl
   ·exact allAncX_sound hdc h hS j h1 hjp
   ·exact absurd hn hjp
  ·rw [Bool.and_eq_true] at h
   have hn : q n:=hS n (List.contains_iff_mem.1 h.1);rcases Nat.lt_succ_iff_lt_or_eq.1 hj with h1 | rfl
   ·refine allAncX_sound hdc h.2 (fun i hi => ?_) j h1 hjp
    split at hi
    ·next o ho =>
     rcases List.mem_append.1 hi with h2 | h2
     ·exact hdc _ _ ho hn _ h2
     ·exact hS _ h2
    ·exact hS _ hi
   ·exact hn
def lateB (l T : List Oper) (p : Nat) : Bool :=
 l.all (fun o => o.guard.isNone) && decide (dstsL l).Nodup &&
 (List.range l.length).all (fun i => match l[i]? with | some o => (edgesL o).all (fun j => decide (j < i)) | none => true) &&
 (List.range T.length).all (fun i => match T[i]? with | some o => (edgesL o).all (fun j => decide (j < l.length + i)) && (i == 0 || (edgesL o).contains (l.length + i - 1)) | none => true) &&
 (match T with | t0 :: t1 :: _ => t0.guard.isNone && t0.dst.isNone && allAncX l p l.length (edgesL t0) && (edgesL t1).contains p | _ => false)
theorem act_ext {a b : Act} (h1 : ∀ t : Nat,a.tmps[t]? = b.tmps[t]?) (h2 : a.defers = b.defers) : a = b:=by
 have ht : a.tmps = b.tmps:=Array.ext_getElem? h1;cases a; cases b; simp at ht h2; simp [ht,h2]
theorem put_back (a : Act) (d : Nat) (x : Value) : (a.put (some d) x).put (some d) (a.tmps.getD d undef) = a:=by
 refine act_ext (fun t => ?_) (by rw [defers_put,defers_put]);rw [tmps_put,tmps_put,size_put]
 split
 ·next h =>
  obtain ⟨h1,h2⟩:=h;injection h1 with h1
  subst h1;simp [h2]
 ·next h => rfl
section
variable {P : Program} {R : World → World → Prop} {G : Nat → World → Prop} {K0 : Nat} {l : List Oper} {specs : List Spec} {cs : List Nat} {a : Act} {w0 : World}
theorem unl_tail {n m : Nat} {listed : Array Bool} (h : ∀ j,n ≤ j → j < n + m → listed.getD j true = false) : m ≤ unl (n + m) listed:=by
 have key : ∀ k,k ≤ m → k ≤ unl (n + k) listed:=by
  intro k
  induction k with
  | zero => intro _; exact Nat.zero_le _
  | succ k ihk =>
   intro hk;have h2:=ihk (by omega);unfold unl at h2 ⊢;rw [show n + (k + 1) = (n + k) + 1 by omega,List.range_succ,List.countP_append,List.countP_cons,List.countP_nil,h (n + k) (by omega) (by omega)];simp at h2 ⊢; omega
 exact key _ (Nat.le_refl _)
theorem wp_late_any {T : List Oper} {Q : Exit → Act → World → Prop} {p dp : Nat} {op : Oper} {sp : Spec} (hB : lateB l T p = true) (hds : ∀ o ∈ l,∃ d,o.dst = some d ∧ d < a.tmps.size) (hlen : specs.length = l.length) (hlc : cs.length = l.length) (htrans : ∀ a b c,R a b → R b c → R a c)
    (hstab : ∀ s ∈ specs,∀ v w w',R w w' → s v w → s v w')
    (hsteps : looseSteps (StepOK P R G K0 (K0 + cs.sum) l specs a w0) l specs cs)
    (hop : l[p]? = some op) (hdp : op.dst = some dp) (hsp : specs[p]? = some sp) (hcp : cs[p]? = some 0)
    (hpure : ∀ a1 w1,depsL l specs a1 w1 op.after.toList → ∃ x,sp x w1 ∧ ∀ w2,(execOp a1.eval op).run P w2 = .ok (.value x) w2)
    (hend : ∀ w',R w0 w' → G (K0 + cs.sum) w' → looseAll w' (fun a' => ∃ w1,(∀ t0 v,T.head? = some t0 → (execOp (a'.put (some dp) v).eval t0).run P w' = .ok .skip w1) ∧ wpList P (l ++ T).toArray Q (T.drop 1) a' w1) l specs a) :
    ∀ fuel listed a' w',LInv R G K0 l T.length specs cs a w0 listed a' w' → unl (l.length + T.length) listed ≤ fuel → wpAny P .any (l ++ T).toArray Q fuel listed a' w':=by
 simp only [lateB,Bool.and_eq_true,List.all_eq_true,decide_eq_true_eq] at hB;obtain ⟨⟨⟨⟨hg1,hnd⟩,hlex⟩,hT0⟩,hanc⟩:=hB;have hT : ∀ i o,T[i]? = some o → (∀ j ∈ edgesL o,j < l.length + i) ∧ (i = 0 ∨ l.length + i - 1 ∈ edgesL o):=fun i o ho => by
  have h1:=hT0 i (List.mem_range.2 (List.getElem?_eq_some_iff.1 ho).1);rw [ho] at h1;simp only [Bool.and_eq_true,List.all_eq_true,decide_eq_true_eq,Bool.or_eq_true,beq_iff_eq,List.contains_iff_mem] at h1;exact h1
 obtain ⟨t0,t1,ts,rfl⟩ : ∃ t0 t1 ts,T = t0 :: t1 :: ts:=by
  match T,hanc with
  | t0 :: t1 :: ts,_ => exact ⟨t0,t1,ts,rfl⟩
  | [],h => cases h
  | [_],h => cases h
 simp only [Bool.and_eq_true,List.contains_iff_mem] at hanc;obtain ⟨⟨⟨hg0,hd0⟩,hax⟩,h1p⟩:=hanc;have hg0 : t0.guard = none:=by simpa using hg0
 have hd0 : t0.dst = none:=by simpa using hd0
 have hpl : p < l.length:=(List.getElem?_eq_some_iff.1 hop).1;have hw0 : ∀ a : Act,Region.wanted t0 (yielded (l ++ t0 :: t1 :: ts).toArray a.tmps) = true:=fun a => by simp [Region.wanted,hg0]
 have hgp : op.guard = none:=by have:=hg1 op (List.mem_of_getElem? hop); simpa using this
 have hwp : ∀ a : Act,Region.wanted op (yielded (l ++ t0 :: t1 :: ts).toArray a.tmps) = true:=fun a => by simp [Region.wanted,hgp]
 have hdpl : dp < a.tmps.size:=by
  obtain ⟨d,h1,h2⟩:=hds op (List.mem_of_getElem? hop);rw [hdp] at h1; injection h1 with h1; rw [h1]; exact h2
 intro fuel
 induction fuel with
 | zero =>
  intro listed a' w' hI hu;exfalso;have : 0 < unl (l.length + (t0 :: t1 :: ts).length) listed:=by
   unfold unl;rw [List.countP_pos_iff];exact ⟨l.length,by simp,by rw [hI.fn _ (Nat.le_refl _) (by simp)]; rfl⟩
  omega
 | succ fuel ih =>
  intro listed a' w' hI hu;by_cases hall : ∀ j,j < l.length → listed.getD j true = true
  ·have hg:=hI.g
   rw [costL_all (fun j _ h2 => by rw [getD_both (by rw [hI.sz]; omega) false true]; exact hall j (by omega))] at hg
   obtain ⟨w1,hrun,hts⟩:=looseAll_use l specs a hlen hI.ts hI.df hI.kp (fun j o s h1 h2 => hI.sp j o s h1 h2 (by
    have hj:=(List.getElem?_eq_some_iff.1 h1).1
    rw [getD_both (by rw [hI.sz]; omega) false true]; exact hall j hj)) (hend w' hI.r hg)
   have hr:=hrun t0 ((a'.put (some dp) undef).tmps.getD dp undef) rfl;have hr2 : (execOp a'.eval t0).run P w' = .ok .skip w1:=by
    have h:=hrun t0 (a'.tmps.getD dp undef) rfl;have e : a'.put (some dp) (a'.tmps.getD dp undef) = a':=by
     have:=put_back a' dp (a'.tmps.getD dp undef);refine act_ext (fun t => ?_) (defers_put ..);rw [tmps_put]
     split
     ·next h =>
      obtain ⟨h1,h2⟩:=h;injection h1 with h1
      subst h1;simp [h2]
     ·rfl
    rwa [e] at h
   have hK : wpList P (l ++ t0 :: t1 :: ts).toArray Q (t0 :: t1 :: ts) a' w':=by
    rw [wpList,if_pos (hw0 a')];refine .inl ?_;unfold Oper.wp;rw [hr2]
    show wpList P _ Q (t1 :: ts) (a'.put t0.dst undef) w1
    rw [hd0];exact hts
   refine tail_seq hT (t0 :: t1 :: ts).length 0 (by omega) (fuel + 1) listed a' w' ?_ hI.sz (fun j hj => hall j (by omega)) (fun j h1 h2 => hI.fn j (by omega) h2) hK;exact Nat.le_trans (unl_tail fun j h1 h2 => hI.fn j h1 h2) hu
  ·refine ⟨fun hr => ?_,fun i hi => ?_⟩
   ·exfalso
    -- the least one that has not come up may come up
    have hex : ∃ m,m < l.length ∧ listed.getD m true = false ∧ ∀ j,j < m → listed.getD j true = true:=by
     have : ∀ n,n < l.length → listed.getD n true = false → ∃ m,m < l.length ∧ listed.getD m true = false ∧ ∀ j,j < m → listed.getD j true = true:=by
      intro n
      induction n using Nat.strongRecOn with
      | _ n ihn =>
       intro hn hf;by_cases h : ∃ j,j < n ∧ listed.getD j true = false
       ·obtain ⟨j,hj,hjf⟩:=h
        exact ihn j hj (by omega) hjf
       ·exact ⟨n,hn,hf,fun j hj => by
           cases hq : listed.getD j true
           ·exact absurd ⟨j,hj,hq⟩ h
           ·rfl⟩
     apply Decidable.byContradiction;intro hno;exact hall fun j hj => by
      cases hq : listed.getD j true
      ·exact absurd (this j hj hq) hno
      ·rfl
    obtain ⟨m,hm,hmf,hml⟩:=hex;have hmem : m ∈ Region.ready .any (l ++ t0 :: t1 :: ts).toArray listed:=by
     refine mem_ready.2 ⟨hmf,l[m],by rw [ops_left hm,List.getElem?_eq_getElem hm],fun e he hb => ?_⟩;have h1:=hlex m (List.mem_range.2 hm);rw [List.getElem?_eq_getElem hm] at h1;have h3 : e.on < m:=by simpa using (List.all_eq_true.1 h1) _ (edges_mem he hb)
     rw [getD_both (by rw [hI.sz]; omega) false true]; exact hml _ h3
    rw [hr] at hmem;cases hmem
   ·obtain ⟨hif,o,ho,haft⟩:=mem_ready.1 hi
    rcases Nat.lt_or_ge i l.length with hilt | hige
    ·skip
     rw [ops_left hilt] at ho;have hlo:=ho;obtain ⟨s,hs⟩ : ∃ s,specs[i]? = some s:=⟨_,List.getElem?_eq_getElem (by omega)⟩;obtain ⟨c,hc⟩ : ∃ c,cs[i]? = some c:=⟨_,List.getElem?_eq_getElem (by omega)⟩;have hst:=looseSteps_at hsteps hlo hs hc;have hgn : o.guard = none:=by have:=hg1 o (List.mem_of_getElem? hlo); simpa using this
     have hset:=costL_set (cs:=cs) (i:=0) (j:=i) (c:=c) (f:=fun t => listed.getD t false) (g:=fun t => (listed.setIfInBounds i true).getD t false) (Nat.zero_le _) (by simpa using hc)
      (by show listed.getD i false = false; rw [getD_both (getD_true_of hif) false true]; exact hif) (getD_set_eq (getD_true_of hif) _) (fun t ht => getD_set_ne false (Ne.symm ht))
     have hle : K0 + costL cs 0 (fun t => listed.getD t false) + c ≤ K0 + cs.sum:=by
      have:=costL_le (cs:=cs) (i:=0) (f:=fun t => (listed.setIfInBounds i true).getD t false);rw [hset] at this; omega
     have hrun:=hst _ a' w' (Nat.le_add_right _ _) hle hI.r hI.g (fun t ht => by
      have:=hI.kp t ht;simp only [Array.getD_eq_getD_getElem?,this]) (depsL_of fun e he hb => by
      unfold depHold
      split
      ·next o' s' h1 h2 => exact hI.sp _ _ _ h1 h2 (haft e (by simpa using he) hb)
      ·trivial)
     unfold wpOp;rw [ops_left hilt,ho];have hw : Region.wanted o (yielded (l ++ t0 :: t1 :: ts).toArray a'.tmps) = true:=by simp [Region.wanted,hgn]
     simp only [hw,if_true];refine .inl (wp_of_loose hrun fun v w'' hR hG hsv => ?_);refine ih _ _ _ ⟨by simp [hI.sz],htrans _ _ _ hI.r hR,?_,by rw [defers_put]; exact hI.df,by rw [size_put]; exact hI.ts,fun t ht => ?_,fun j o' s' h1 h2 h3 => ?_,fun j h1 h2 => ?_,fun j o' h1 h2 q hq => ?_⟩ (by have:=unl_set (n:=l.length + (t0 :: t1 :: ts).length) (by omega) hif; omega)
     ·have hset' : costL cs 0 (fun t => (listed.setIfInBounds i true).getD t false) = costL cs 0 (fun t => listed.getD t false) + c:=hset
      rw [hset',← Nat.add_assoc]; exact hG
     ·rw [tmps_put,if_neg]
      ·exact hI.kp t ht
      ·rintro ⟨hd,_⟩
       have : t ∈ dstsL l:=List.mem_filterMap.2 ⟨o,List.mem_of_getElem? hlo,hd⟩;rw [List.contains_iff_mem.2 this] at ht; cases ht
     ·by_cases hji : j = i
      ·subst hji
       obtain rfl : o' = o:=by rw [h1] at hlo; exact Option.some.inj hlo
       obtain rfl : s' = s:=by rw [h2] at hs; exact Option.some.inj hs
       obtain ⟨d,hd,hdl⟩:=hds o' (List.mem_of_getElem? h1);rw [hd,slotv_put_same (by rw [hI.ts]; exact hdl)];exact hsv
      ·obtain ⟨d,hd,_⟩:=hds o' (List.mem_of_getElem? h1)
       obtain ⟨d2,hd2,_⟩:=hds o (List.mem_of_getElem? hlo);have hne : d ≠ d2:=fun e => hji (nodup_get hnd h1 hlo hd (by rw [hd2,e]))
       rw [getD_set_ne false (Ne.symm hji)] at h3;have h4:=hI.sp j o' s' h1 h2 h3;rw [hd] at h4 ⊢;rw [hd2,slotv_put_ne hne];exact hstab s' (List.mem_of_getElem? h2) _ _ _ hR h4
     ·rw [getD_set_ne true (by omega)]; exact hI.fn j h1 h2
     ·have hql : q < l.length:=by
         have hj:=(List.getElem?_eq_some_iff.1 h1).1;have h5:=hlex j (List.mem_range.2 hj);rw [h1] at h5;have h6 : q < j:=by simpa using (List.all_eq_true.1 h5) _ hq
         omega
      by_cases hqi : q = i
      ·subst hqi; exact getD_set_eq (getD_true_of hif) _
      ·rw [getD_set_ne true (Ne.symm hqi)]
       by_cases hji : j = i
       ·subst hji
        obtain rfl : o' = o:=by rw [h1] at hlo; exact Option.some.inj hlo
        obtain ⟨e,he,hb,rfl⟩:=mem_edges hq;have:=haft e he hb
        rwa [getD_both (by rw [hI.sz]; omega) false true] at this
       ·rw [getD_set_ne true (Ne.symm hji)] at h2
        exact hI.dc j o' h1 h2 q hq
    ·-- the store comes up ahead of p
     have hi2 : i < l.length + (t0 :: t1 :: ts).length:=by have:=getD_true_of hif; rw [hI.sz] at this; exact this
     obtain ⟨d,rfl⟩ : ∃ d,i = l.length + d:=⟨i - l.length,by omega⟩;rw [ops_right] at ho;have hd : d = 0:=by
      rcases (hT d o ho).2 with h0 | h0
      ·exact h0
      ·rcases Nat.eq_zero_or_pos d with q0 | q0
       ·exact q0
       ·obtain ⟨e,he,hb,heq⟩:=mem_edges h0
        have h1:=haft e he hb;rw [heq,getD_both (by rw [hI.sz]; omega) false true,hI.fn _ (by omega) (by omega)] at h1;cases h1
     subst hd;obtain rfl : t0 = o:=by simpa using ho
     have hbut : ∀ j,j < l.length → j ≠ p → listed.getD j true = true:=allAncX_sound (q:=fun j => listed.getD j true = true) hI.dc hax (fun j hj => by
      obtain ⟨e,he,hb,rfl⟩:=mem_edges hj;have h1:=haft e he hb;have h2:=(hT 0 t0 rfl).1 _ hj
      rwa [getD_both (by rw [hI.sz]; simp at h2 ⊢; omega) false true] at h1)
     have hpf : listed.getD p true = false:=by
      cases hq : listed.getD p true
      ·rfl
      ·exact absurd (fun j hj => by
          by_cases hjp : j = p
          ·subst hjp; exact hq
          ·exact hbut j hj hjp) hall
     have hps:=getD_true_of hpf;have hg:=hI.g;have hset:=costL_set (cs:=cs) (i:=0) (j:=p) (c:=0) (f:=fun t => listed.getD t false) (g:=fun t => (listed.setIfInBounds p true).getD t false) (Nat.zero_le _) (by simpa using hcp)
      (by show listed.getD p false = false; rw [getD_both hps false true]; exact hpf) (getD_set_eq hps _) (fun t ht => getD_set_ne false (Ne.symm ht))
     rw [costL_all (f:=fun t => (listed.setIfInBounds p true).getD t false) (fun j _ h2 => by
      show (listed.setIfInBounds p true).getD j false = true
      by_cases hjp : j = p
      ·subst hjp; exact getD_set_eq hps _
      ·rw [getD_set_ne false (Ne.symm hjp),getD_both (by rw [hI.sz]; omega) false true]; exact hbut j (by omega) hjp)] at hset
     rw [show costL cs 0 (fun i => listed.getD i false) = cs.sum from hset.symm] at hg;have hdeps : depsL l specs a' w' op.after.toList:=depsL_of fun e he hb => by
      unfold depHold
      split
      ·next o' s' h1 h2 =>
       have h3:=hlex p (List.mem_range.2 hpl);rw [hop] at h3;have h4 : e.on < p:=by simpa using (List.all_eq_true.1 h3) _ (edges_mem (by simpa using he) hb)
       exact hI.sp _ _ _ h1 h2 (by rw [getD_both (by rw [hI.sz]; omega) false true]; exact hbut _ (by omega) (by omega))
      ·trivial
     obtain ⟨x,hsx,hrx⟩:=hpure a' w' hdeps;have hdp2 : dp < a'.tmps.size:=by rw [hI.ts]; exact hdpl
     obtain ⟨w1,hrun,hts⟩:=looseAll_use (a':=a'.put (some dp) x) l specs a hlen (by rw [size_put]; exact hI.ts) (by rw [defers_put]; exact hI.df) (fun t ht => by
      rw [tmps_put,if_neg]
      ·exact hI.kp t ht
      ·rintro ⟨hd,_⟩
       have : t ∈ dstsL l:=List.mem_filterMap.2 ⟨op,List.mem_of_getElem? hop,by rw [hdp]; exact hd⟩;rw [List.contains_iff_mem.2 this] at ht; cases ht) (fun j o' s' h1 h2 => by
      by_cases hjp : j = p
      ·subst hjp
       obtain rfl : o' = op:=by rw [hop] at h1; exact (Option.some.inj h1).symm
       obtain rfl : s' = sp:=by rw [hsp] at h2; exact (Option.some.inj h2).symm
       rw [hdp,slotv_put_same hdp2];exact hsx
      ·obtain ⟨d,hd,_⟩:=hds o' (List.mem_of_getElem? h1)
       have hj:=(List.getElem?_eq_some_iff.1 h1).1;have hne : d ≠ dp:=fun e => hjp (nodup_get hnd h1 hop hd (by rw [hdp,e]))
       have h4:=hI.sp j o' s' h1 h2 (by rw [getD_both (by rw [hI.sz]; omega) false true]; exact hbut j hj hjp);rw [hd] at h4 ⊢;rw [slotv_put_ne hne]
       exact h4) (hend w' hI.r hg)
     have hr2:=hrun t0 (a'.tmps.getD dp undef) rfl;rw [put_back] at hr2;have u1:=unl_set (n:=l.length + (t0 :: t1 :: ts).length) (by omega) hif;unfold wpOp;rw [ops_right]
     show (if Region.wanted t0 (yielded (l ++ t0 :: t1 :: ts).toArray a'.tmps) = true then _ else _)
     rw [if_pos (hw0 a')];refine .inl ?_;unfold Oper.wp;rw [hr2]
     show wpAny P .any (l ++ t0 :: t1 :: ts).toArray Q fuel (listed.setIfInBounds (l.length + 0) true) (a'.put t0.dst undef) w1
     rw [hd0]
     show wpAny P .any (l ++ t0 :: t1 :: ts).toArray Q fuel (listed.setIfInBounds (l.length + 0) true) a' w1
     have hl1 : (listed.setIfInBounds (l.length + 0) true).getD p true = false:=by rw [getD_set_ne true (by omega)]; exact hpf
     have u2:=unl_set (n:=l.length + (t0 :: t1 :: ts).length) (i:=p) (listed:=listed.setIfInBounds (l.length + 0) true) (by omega) hl1;have hszL : (listed.setIfInBounds (l.length + 0) true).size = l.length + (t0 :: t1 :: ts).length:=by simp [hI.sz]
     generalize hL : listed.setIfInBounds (l.length + 0) true = L1 at *
     have hLt : ∀ j,j < l.length → j ≠ p → L1.getD j true = true:=fun j hj hjp => by rw [← hL,getD_set_ne true (by omega)]; exact hbut j hj hjp
     have hLs : L1.getD l.length true = true:=by rw [← hL]; exact getD_set_eq (getD_true_of hif) _
     have hLf : ∀ j,l.length + 1 ≤ j → j < l.length + (t0 :: t1 :: ts).length → L1.getD j true = false:=fun j h1 h2 => by rw [← hL,getD_set_ne true (by omega)]; exact hI.fn j (by omega) h2
     cases fuel with
     | zero => omega
     | succ fuel =>
      have hopA : (l ++ t0 :: t1 :: ts).toArray[p]? = some op:=by rw [ops_left hpl,hop]
      have hmem : p ∈ Region.ready .any (l ++ t0 :: t1 :: ts).toArray L1:=mem_ready.2 ⟨hl1,op,hopA,fun e he hb => by
       have h3:=hlex p (List.mem_range.2 hpl);rw [hop] at h3;have h4 : e.on < p:=by simpa using (List.all_eq_true.1 h3) _ (edges_mem he hb)
       rw [getD_both (by omega) false true]; exact hLt _ (by omega) (by omega)⟩
      refine ⟨fun hr => (by rw [hr] at hmem; cases hmem),fun i hi => ?_⟩;obtain ⟨hif2,o2,ho2,haft2⟩:=mem_ready.1 hi;have hip : i = p:=by
       have hib:=getD_true_of hif2;rcases Nat.lt_or_ge i l.length with q | q
       ·by_cases hjp : i = p
        ·exact hjp
        ·rw [hLt i q hjp] at hif2; cases hif2
       ·exfalso
        obtain ⟨d,rfl⟩ : ∃ d,i = l.length + d:=⟨i - l.length,by omega⟩;rw [ops_right] at ho2;rcases Nat.eq_zero_or_pos d with z | z
        ·subst z; rw [Nat.add_zero,hLs] at hif2; cases hif2
        ·by_cases h1 : d = 1
         ·subst h1
          obtain rfl : t1 = o2:=by simpa using ho2
          obtain ⟨e,he,hb,heq⟩:=mem_edges h1p;have h5:=haft2 e he hb;rw [heq,getD_both (by omega) false true,hl1] at h5;cases h5
         ·rcases (hT d o2 ho2).2 with h0 | h0
          ·omega
          ·obtain ⟨e,he,hb,heq⟩:=mem_edges h0
           have h5:=haft2 e he hb;rw [heq,getD_both (by omega) false true,hLf _ (by omega) (by omega)] at h5;cases h5
      subst hip;unfold wpOp;rw [hopA]
      show (if Region.wanted op (yielded (l ++ t0 :: t1 :: ts).toArray a'.tmps) = true then _ else _)
      rw [if_pos (hwp a')];refine .inl ?_;unfold Oper.wp;rw [hrx w1]
      show wpAny P .any (l ++ t0 :: t1 :: ts).toArray Q fuel (L1.setIfInBounds i true) (a'.put op.dst x) w1
      rw [hdp];have hpb : i < L1.size:=by omega
      have hfin : ∀ j,l.length + 1 ≤ j → j < l.length + (t0 :: t1 :: ts).length → (L1.setIfInBounds i true).getD j true = false:=fun j h1 h2 => by rw [getD_set_ne true (by omega)]; exact hLf j h1 h2
      refine tail_seq hT (t1 :: ts).length 1 (by simp; omega) fuel _ _ w1 ?_ (by simp [hszL]) (fun j hj => ?_) hfin hts
      ·have h6 : (t1 :: ts).length ≤ unl (l.length + 1 + (t1 :: ts).length) (L1.setIfInBounds i true):=unl_tail fun j h1 h2 => hfin j h1 (by simp at h2 ⊢; omega)
       rw [show l.length + 1 + (t1 :: ts).length = l.length + (t0 :: t1 :: ts).length by simp; omega] at h6;omega
      ·by_cases hjp : j = i
       ·subst hjp; exact getD_set_eq hpb _
       ·rw [getD_set_ne true (Ne.symm hjp)]
        by_cases hjl : j = l.length
        ·subst hjl; exact hLs
        ·exact hLt j (by omega) hjp
end
theorem wp_region_late {P : Program} {R : World → World → Prop} {G : Nat → World → Prop} (n K0 p dp : Nat) {L : List Oper} (specs : List Spec) (cs : List Nat) {op : Oper} {sp : Spec} {id : Nat} {Q : Exit → Act → World → Prop} {a : Act} {w : World}
    (hm : P.follows .mixedOrders = true) (hB : lateB (L.take n) (L.drop n) p = true) (hds : ((L.take n).all fun o => match o.dst with | some d => decide (d < a.tmps.size) | none => false) = true)
    (hlen : specs.length = (L.take n).length) (hlc : cs.length = (L.take n).length) (hrefl : ∀ w,R w w) (htrans : ∀ a b c,R a b → R b c → R a c) (hstab : ∀ s ∈ specs,∀ v w w',R w w' → s v w → s v w')
    (hG : G K0 w.drew) (hop : (L.take n)[p]? = some op) (hdp : op.dst = some dp) (hsp : specs[p]? = some sp) (hcp : cs[p]? = some 0)
    (hpure : ∀ a1 w1,depsL (L.take n) specs a1 w1 op.after.toList → ∃ x,sp x w1 ∧ ∀ w2,(execOp a1.eval op).run P w2 = .ok (.value x) w2)
    (hsteps : looseSteps (StepOK P R G K0 (K0 + cs.sum) (L.take n) specs a w.drew) (L.take n) specs cs)
    (hend : ∀ w',R w.drew w' → G (K0 + cs.sum) w' → looseAll w' (fun a' => ∃ w1,(∀ t0 v,(L.drop n).head? = some t0 → (execOp (a'.put (some dp) v).eval t0).run P w' = .ok .skip w1) ∧ wpList P L.toArray Q ((L.drop n).drop 1) a' w1) (L.take n) specs a) : (Code.region id L.toArray true).wp P Q a w:=by
 have hL : L = L.take n ++ L.drop n:=(List.take_append_drop n L).symm;have hend' : ∀ w',R w.drew w' → G (K0 + cs.sum) w' → looseAll w' (fun a' => ∃ w1,(∀ t0 v,(L.drop n).head? = some t0 → (execOp (a'.put (some dp) v).eval t0).run P w' = .ok .skip w1) ∧ wpList P (L.take n ++ L.drop n).toArray Q ((L.drop n).drop 1) a' w1) (L.take n) specs a:=by rw [← hL]; exact hend
 rw [hL];refine wp_region_any hm ?_;have hsz : (L.take n ++ L.drop n).toArray.size = (L.take n).length + (L.drop n).length:=by rw [List.size_toArray,List.length_append]
 rw [hsz];have hds' : ∀ o ∈ L.take n,∃ d,o.dst = some d ∧ d < a.tmps.size:=fun o ho => by
  have:=List.all_eq_true.1 hds o ho;cases hd : o.dst with
  | none => rw [hd] at this; cases this
  | some d => rw [hd] at this; exact ⟨d,rfl,by simpa using this⟩
 have hrep : ∀ j,j < (L.take n).length + (L.drop n).length → (Array.replicate ((L.take n).length + (L.drop n).length) false).getD j true = false:=fun j hj => by
  rw [Array.getD_eq_getD_getElem?,Array.getElem?_replicate,if_pos hj]; rfl
 refine wp_late_any hB hds' hlen hlc htrans hstab hsteps hop hdp hsp hcp hpure hend' _ _ a _ ⟨Array.size_replicate,hrefl _,?_,rfl,rfl,fun _ _ => rfl,fun i o s h1 _ h => ?_,fun j _ h2 => hrep j h2,fun i o h1 h2 => ?_⟩ ?_
 ·have : costL cs 0 (fun i => (Array.replicate ((L.take n).length + (L.drop n).length) false).getD i false) = 0:=by
     rw [costL_congr (g:=fun _ => false) (fun j _ => by
      rw [Array.getD_eq_getD_getElem?,Array.getElem?_replicate]; split <;> rfl),costL_none]
  rw [this]; exact hG
 ·rw [Array.getD_eq_getD_getElem?,Array.getElem?_replicate] at h
  split at h <;> cases h
 ·have:=hrep i (by have:=(List.getElem?_eq_some_iff.1 h1).1; omega)
  rw [this] at h2; cases h2
 ·exact Nat.le_trans List.countP_le_length (by simp)
end Go.Proofs.YtfnmlffpnmmcdaaGreatDoor
