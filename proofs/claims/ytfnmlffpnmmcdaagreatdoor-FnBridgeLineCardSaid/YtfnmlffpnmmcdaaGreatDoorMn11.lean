/- Parts of the proof, merged: DrawFans Bridge DrawBridge Call DrawBl StrS SameBr RaPlain RaA ShelfSp RaB. -/
import Derived.Test.YtfnmlffpnmmcdaaGreatDoorMn10
import Derived.Test.YtfnmlffpnmmcdaaGreatDoorMn8
import Derived.Test.YtfnmlffpnmmcdaaGreatDoorMn3
import Derived.Test.YtfnmlffpnmmcdaaGreatDoorMn4
import Derived.Deep.Cut
import Derived.Deep.RegionHeld3
import Derived.Test.YtfnmlffpnmmcdaaGreatDoorMn7
import Derived.Test.YtfnmlffpnmmcdaaGreatDoorMn5
import Derived.Lib.SplitLaws
import Derived.Shelf.Strings.SplitCore
import Derived.Shelf.Strings.Search3
import Derived.Shelf.Strings.Count
import Derived.Test.YtfnmlffpnmmcdaaGreatDoorProg
namespace Go.Proofs.YtfnmlffpnmmcdaaGreatDoor
set_option maxRecDepth 100000
open Go.RowKit
theorem folOf_sz9 {fs : List ElHandle} {h : ElHandle} (hf : ∀ x ∈ fs,x.1.size ≤ 9 ∧ x.2.size ≤ 9) (hh : h.1.size ≤ 9 ∧ h.2.size ≤ 9) : ∀ x ∈ folOf fs h,x.1.size ≤ 9 ∧ x.2.size ≤ 9:=fun x hx => by
 rcases folOf_mem hx with k | rfl
 ·exact hf x k
 ·exact hh
theorem sz9 {s : ByteArray} (h : s.size ≤ 9) : s.size ≤ maxLen:=by simp only [maxLen]; omega
theorem szH_max {xs : List ElHandle} (h : ∀ x ∈ xs,x.1.size ≤ 9 ∧ x.2.size ≤ 9) : ∀ k,k < xs.length → (gt xs k).1.size ≤ maxLen ∧ (gt xs k).2.size ≤ maxLen:=fun _k hk =>
 have q:=h _ (gt_mem hk); ⟨sz9 q.1,sz9 q.2⟩
theorem add_szH {xs : List ElHandle} (h : ∀ x ∈ xs,x.1.size ≤ 9 ∧ x.2.size ≤ 9) {y : ElHandle} (hy : y.1.size ≤ 9 ∧ y.2.size ≤ 9) : ∀ x ∈ xs ++ [y],x.1.size ≤ 9 ∧ x.2.size ≤ 9:=fun x hx => (List.mem_append.1 hx).elim (h x) (fun e => by rw [List.mem_singleton] at e; subst e; exact hy)
def DrewFs (g m : Nat) (w : World) (e : Ending) (w' : World) : Prop:=∃ (A : Option Addr) (cap : Nat) (xs : List ElHandle),e = .returned (.slice A xs.length cap) ∧ xs.length ≤ 6 ∧ (∀ x ∈ xs,x.1.size ≤ 9 ∧ x.2.size ≤ 9) ∧ OwnE 2 encHandle 29 w' w.heap.size A cap xs ∧ Rdr w' g m ∧ w.grownBy w' (some g)
set_option maxHeartbeats 1600000 in
theorem l20Fans_any (g m : Nat) (n : Int) (w : World) (h : Rdr w g m) (hm : m ≤ 800000) (hn : 0 ≤ n) (hn2 : n ≤ 1000000) :
    Calls Tryz.prog 112 #[.pointer (some ⟨g,0,none⟩),.int .i64 n] w (DrewFs g (m + 40) w):=by
 have hlt:=h.lt
 go_enter Tryz.func112,Tryz.ntmps112
 go_wp2_with fail
 refine (pick_any g m _ _ (h.alloc _) (by omega)).mono ?_
 rintro e w1 ⟨y,rfl,hy0,hy1,hr1,hg1⟩
 obtain ⟨y0,rfl⟩:=Int.eq_ofNat_of_zero_le hy0
 have hyb : y0 ≤ 5:=by omega
 have ho1 : OwnE 2 encHandle 29 w1 w.heap.size (some ⟨w.heap.size,0,none⟩) 0 ([] : List ElHandle):=keptH (xs:=[]) (Own.lit w 29 2 0 #[] (cE 2 encHandle ([] : List ElHandle)) (Nat.zero_le _) rfl) hg1 hlt
 have hw1:=(only_alloc w (some g) (World.grownBy.refl _ _) _).trans hg1
 clear hy0 hy1 hg1
 go_wp2_with fail
 go_loopw [5,6,7,8] (fun v i _ _ wr => ∃ (c y : Nat) (T : Option Addr) (cap : Nat) (cur : List ElHandle),c + y ≤ 5 ∧ i = .int .i64 y ∧ v = .slice T cur.length cap ∧ cur.length ≤ c ∧ Hid (∀ x ∈ cur,x.1.size ≤ 9 ∧ x.2.size ≤ 9) ∧ OwnE 2 encHandle 29 wr w.heap.size T cap cur ∧ Rdr wr g (m + 1 + 6 * c) ∧ w.grownBy wr (some g)) (fun _ i _ _ _ => (intOf i).toNat)
 case atStart => exact ⟨0,y0,_,0,[],by omega,rfl,rfl,by simp,Lib.hid (fun x hx => by cases hx),ho1,hr1,hw1⟩
 case round =>
  obtain ⟨c,y,T,cap,cur,hcy,rfl,rfl,hcl,HC,hown,hr,hw⟩:=hrel
  clear ho1 hr1 hw1
  have hsz:=hw.size
  by_cases hlt2 : 0 < y
  ·obtain ⟨y,rfl⟩ : ∃ z,y = z + 1:=⟨y - 1,by omega⟩
   have hd : decide (0 < ((y + 1 : Nat) : Int)) = true:=decide_eq_true (by omega)
   go_wp2_with fail
   refine (l20Handle_any g _ _ _ hr (by omega) (by omega) (by omega)).mono ?_
   rintro e w5 ⟨p,rfl,hp0,hp1,hr5,hg5⟩
   have hown5:=keptH hown hg5 hlt
   have hw5:=hw.trans hg5
   have hs5:=hw5.size
   have HS5:=Lib.hid (folOf_sz9 HC.out (h:=p) ⟨hp0,hp1⟩)
   have hlf:=folOf_len1 cur p
   clear hown hr hw hg5
   go_wp2_with fail
   refine (specFollow_any T cap _ cur p w5 (OwnE.rd hown5) (Nat.le_refl _) (by omega) (Own.shp hown5) (szH_max HC.out) ⟨sz9 hp0,sz9 hp1⟩).mono ?_
   rintro e w6 ⟨T6,c6,rfl,ho6,hb6⟩
   go_wp2_with fail
   go_roundw
   case rel => exact ⟨c + 1,y,T6,c6,_,by omega,by go_num,rfl,by omega,HS5,Own.more ho6 hs5,(hr5.below hb6 (by omega)).more (by omega),only_below hw5 hb6 hs5⟩
   case measure => first | (simp [intOf]; done) | (simp [intOf]; omega)
  ·have hd : decide (0 < (y : Int)) = false:=decide_eq_false (by omega)
   go_wp2_with fail
   refine (odd_any g _ _ _ hr (by omega) hn hn2).mono ?_
   rintro e w2 ⟨q,rfl,hr2,hg2⟩
   have hown2:=keptH hown hg2 hlt
   have hw2:=hw.trans hg2
   have hs2:=hw2.size
   clear hown hr hw hg2 hd
   cases q
   ·go_wp2_with fail
    go_ret
    exact ⟨T,cap,cur,rfl,by omega,HC.out,hown2,hr2.more (by omega),hw2⟩
   ·by_cases h0 : 0 < cur.length
    ·have d0 : decide (0 < (cur.length : Int)) = true:=decide_eq_true (by omega)
     have d0n : decide (0 < cur.length) = true:=decide_eq_true h0
     go_wp2_with fail
     refine (pick_any g _ _ _ hr2 (by omega)).mono ?_
     rintro e w3 ⟨z,rfl,hz0,hz1,hr3,hg3⟩
     have hown3:=keptH hown2 hg3 hlt
     have hw3:=hw2.trans hg3
     have hs3:=hw3.size
     clear hown2 hw2 hr2 hg3 d0 d0n
     by_cases hz : z = 0
     ·have e0 : (z == 0) = true:=beq_iff_eq.2 hz
      clear hz
      rcases hown3.shape with ⟨_,hq0,_⟩ | ⟨b,rfl,hbb,hbl,hcp,hmx⟩
      ·omega
      ·unfold maxLen at hmx
       have c0 : w3.cell? ⟨b,0,none⟩ = some (Value.string (gt cur 0).1):=Own.cell hown3 rfl (j:=0) (by omega)
       have c1 : w3.cell? ⟨b,1,none⟩ = some (Value.string (gt cur 0).2):=Own.cell hown3 rfl (j:=1) (by omega)
       have h0i : (0 : Int) < (cur.length : Int):=by omega
       go_wp2_with (at_builtin; refine wpList_app rfl (.tmp 35) (.tmp 39) _ rfl w.heap.size 29 _ 2 32 Tryz.underlying31 info_Handle rfl (by omega) (some ⟨b,0,none⟩) (some ⟨w3.heap.size,0,none⟩) cur.length cap 1 1 (w3.heap.size + 1) (cE 2 encHandle cur) (encHandle (gt cur 0)) rfl rfl (Own.below hown3 ((Below.refl _ _).alloc (Nat.le_refl _) _)) (rd_elem _ _ _ _ (fun j hj => by rcases (by omega : j = 0 ∨ j = 1) with rfl | rfl <;> rfl)) (fun _ _ => encHandle_one _ _) (by simp only [maxLen]; omega) (by omega) (by first | omega | (simp; done) | (simp; omega)) ?_; intro T8 cap8 w8 hown8 hg8)
       go_ret
       exact ⟨T8,cap8,cur ++ [(gt cur 0)],by rw [List.length_append]; rfl,by rw [List.length_append,List.length_singleton]; omega,add_szH HC.out (HC.out _ (gt_mem h0)),OwnE.snoc (by omega) hown8,(hr3.below (((Below.refl _ _).alloc hs3 _).trans (grown_below hg8 (fun b hb => (Own.lt hown3 hb).1) (by first | omega | (simp; done) | (simp; omega)))) hlt).more (by omega),only_below hw3 (((Below.refl _ _).alloc hs3 _).trans (grown_below hg8 (fun b hb => (Own.lt hown3 hb).1) (by first | omega | (simp; done) | (simp; omega)))) (Nat.le_refl _)⟩
     ·have e0 : (z == 0) = false:=beq_eq_false_iff_ne.2 hz
      clear hz
      go_wp2_with (at_builtin; refine wpList_app rfl (.tmp 41) (.tmp 43) _ rfl w.heap.size 29 _ 2 32 Tryz.underlying31 info_Handle rfl (by omega) T (some ⟨w3.heap.size,0,none⟩) cur.length cap 1 1 (w3.heap.size + 1) (cE 2 encHandle cur) (encHandle ({ data:=#[122] },{ data:=#[] })) rfl rfl (Own.below hown3 ((Below.refl _ _).alloc (Nat.le_refl _) _)) (rd_elem _ _ _ _ (fun j hj => by rcases (by omega : j = 0 ∨ j = 1) with rfl | rfl <;> rfl)) (fun _ _ => encHandle_one _ _) (by simp only [maxLen]; omega) (by omega) (by first | omega | (simp; done) | (simp; omega)) ?_; intro T8 cap8 w8 hown8 hg8)
      go_ret
      exact ⟨T8,cap8,cur ++ [({ data:=#[122] },{ data:=#[] })],by rw [List.length_append]; rfl,by rw [List.length_append,List.length_singleton]; omega,add_szH HC.out ⟨by decide,by decide⟩,OwnE.snoc (by omega) hown8,(hr3.below (((Below.refl _ _).alloc hs3 _).trans (grown_below hg8 (fun b hb => (Own.lt hown3 hb).1) (by first | omega | (simp; done) | (simp; omega)))) hlt).more (by omega),only_below hw3 (((Below.refl _ _).alloc hs3 _).trans (grown_below hg8 (fun b hb => (Own.lt hown3 hb).1) (by first | omega | (simp; done) | (simp; omega)))) (Nat.le_refl _)⟩
    ·have d0 : decide (0 < (cur.length : Int)) = false:=decide_eq_false (by omega)
     have d0n : decide (0 < cur.length) = false:=decide_eq_false h0
     go_wp2_with (at_builtin; refine wpList_app rfl (.tmp 41) (.tmp 43) _ rfl w.heap.size 29 _ 2 32 Tryz.underlying31 info_Handle rfl (by omega) T (some ⟨w2.heap.size,0,none⟩) cur.length cap 1 1 (w2.heap.size + 1) (cE 2 encHandle cur) (encHandle ({ data:=#[122] },{ data:=#[] })) rfl rfl (Own.below hown2 ((Below.refl _ _).alloc (Nat.le_refl _) _)) (rd_elem _ _ _ _ (fun j hj => by rcases (by omega : j = 0 ∨ j = 1) with rfl | rfl <;> rfl)) (fun _ _ => encHandle_one _ _) (by simp only [maxLen]; omega) (by omega) (by first | omega | (simp; done) | (simp; omega)) ?_; intro T8 cap8 w8 hown8 hg8)
     go_ret
     exact ⟨T8,cap8,cur ++ [({ data:=#[122] },{ data:=#[] })],by rw [List.length_append]; rfl,by rw [List.length_append,List.length_singleton]; omega,add_szH HC.out ⟨by decide,by decide⟩,OwnE.snoc (by omega) hown8,(hr2.below (((Below.refl _ _).alloc hs2 _).trans (grown_below hg8 (fun b hb => (Own.lt hown2 hb).1) (by first | omega | (simp; done) | (simp; omega)))) hlt).more (by omega),only_below hw2 (((Below.refl _ _).alloc hs2 _).trans (grown_below hg8 (fun b hb => (Own.lt hown2 hb).1) (by first | omega | (simp; done) | (simp; omega)))) (Nat.le_refl _)⟩
end Go.Proofs.YtfnmlffpnmmcdaaGreatDoor
namespace Go.Proofs.YtfnmlffpnmmcdaaGreatDoor
set_option maxRecDepth 100000
open Go.RowKit
theorem set_grown (w : World) (b o : Nat) (u : Value) : w.grownBy (w.setCell ⟨b,o,none⟩ u) (some b) :=
 ⟨rfl,rfl,rfl,by simp,fun i _ hne => Below.heap_setCell w ⟨b,o,none⟩ u i (fun e => hne (by rw [e]))⟩
theorem own_set {w : World} {base e sz n cap : Nat} {A : Option Addr} {f : Nat → Value} (h : Own w base e sz A n cap f) (b o : Nat) (u : Value) (hb : b < base) : Own (w.setCell ⟨b,o,none⟩ u) base e sz A n cap f :=
 Own.kept h (set_grown w b o u) (by
  cases hA : blk A with
  | none => exact .inl rfl
  | some c => exact .inr (fun e => by injection e with e; have:=(Own.lt h hA).1; omega))
def zBr : Nat → Value
 | 0 => Value.string { data:=#[] }
 | 1 => Value.string { data:=#[] }
 | 2 => Value.slice none 0 0
 | 3 => Value.slice none 0 0
 | _ => Value.int .i64 0
end Go.Proofs.YtfnmlffpnmmcdaaGreatDoor
namespace Go.Proofs.YtfnmlffpnmmcdaaGreatDoor
set_option maxRecDepth 100000
open Go.RowKit
def DrewBr (g m : Nat) (w : World) (e : Ending) (w' : World) : Prop:=∃ (who : ElHandle) (I : Option Addr) (ci : Nat) (is : List ElItem) (F : Option Addr) (cf : Nat) (fs : List ElHandle) (nx : Int),e = .returned (.agg #[.string who.1,.string who.2,.slice I is.length ci,.slice F fs.length cf,.int .i64 nx]) ∧ (who.1.size ≤ 9 ∧ who.2.size ≤ 9) ∧ (is.length ≤ 7 ∧ ∀ x ∈ is,x.1.size ≤ 81 ∧ x.2.1.size ≤ 81 ∧ x.2.2.1.size ≤ 81) ∧ (fs.length ≤ 6 ∧ ∀ x ∈ fs,x.1.size ≤ 9 ∧ x.2.size ≤ 9) ∧ (-1 ≤ nx ∧ nx ≤ 1000001) ∧ OwnE 4 encItem 69 w' w.heap.size I ci is ∧ OwnE 2 encHandle 29 w' w.heap.size F cf fs ∧ Rdr w' g m ∧ w.grownBy w' (some g)
def brF (who : ElHandle) (A C : Value) (nx : Int) : Nat → Value
 | 0 => Value.string who.1
 | 1 => Value.string who.2
 | 2 => A
 | 3 => C
 | _ => Value.int .i64 nx
theorem keptB {sz e base g cap n : Nat} {w w' : World} {A : Option Addr} {f : Nat → Value} (h : Own w base e sz A n cap f) (hg : w.grownBy w' (some g)) (hlt : g < base) : Own w' base e sz A n cap f :=
 Own.kept h hg (by
  cases hA : blk A with
  | none => exact .inl rfl
  | some b => exact .inr (fun e => by injection e with e; have:=(Own.lt h hA).1; omega))
set_option maxHeartbeats 3200000 in
theorem l20Bridge_any (g m : Nat) (n : Int) (w : World) (h : Rdr w g m) (hm : m ≤ 700000) (hn : 0 ≤ n) (hn2 : n ≤ 1000000) :
    Calls Tryz.prog 62 #[.pointer (some ⟨g,0,none⟩),.int .i64 n] w (DrewBr g (m + 250) w):=by
 have hlt:=h.lt
 have oR : Own (w.alloc (.cells #[.string { data:=#[] },.string { data:=#[] },.slice none 0 0,.slice none 0 0,.int .i64 0] 33)) w.heap.size 33 5 (some ⟨w.heap.size,0,none⟩) 1 1 zBr:=Own.lit w 33 5 1 #[.string { data:=#[] },.string { data:=#[] },.slice none 0 0,.slice none 0 0,.int .i64 0] zBr (by simp only [maxLen]; omega) rfl
 have hgA:=only_alloc w (some g) (World.grownBy.refl _ _) (.cells #[.string { data:=#[] },.string { data:=#[] },.slice none 0 0,.slice none 0 0,.int .i64 0] 33)
 have hrA:=h.alloc (.cells #[.string { data:=#[] },.string { data:=#[] },.slice none 0 0,.slice none 0 0,.int .i64 0] 33)
 have hzA : w.heap.size < (w.alloc (.cells #[.string { data:=#[] },.string { data:=#[] },.slice none 0 0,.slice none 0 0,.int .i64 0] 33)).heap.size:=by simp
 go_enter Tryz.func62,Tryz.ntmps62
 go_wp2_with fail
 generalize (w.alloc (.cells #[.string { data:=#[] },.string { data:=#[] },.slice none 0 0,.slice none 0 0,.int .i64 0] 33)) = wA at *
 refine (l20Handle_any g m _ _ hrA (by omega) (by omega) (by omega)).mono ?_
 rintro e w1 ⟨who,rfl,hw0,hw1,hr1,hg1⟩
 have hgw1:=hgA.trans hg1
 have hs1:=hg1.size
 go_wp2_with fail
 refine (l20Feed_any g _ _ _ hr1 (by omega) (by omega) (by omega)).mono ?_
 rintro e w2 ⟨I,ci,is,rfl,hil,hiz,oI,hr2,hg2⟩
 have HIZ:=Lib.hid hiz
 clear hiz
 have hgw2:=hgw1.trans hg2
 have hs2:=hg2.size
 go_wp2_with fail
 refine (l20Fans_any g _ _ _ hr2 (by omega) (by omega) (by omega)).mono ?_
 rintro e w3 ⟨F,cf,fs,rfl,hfl,hfz,oF,hr3,hg3⟩
 have HFZ:=Lib.hid hfz
 clear hfz
 have hgw3:=hgw2.trans hg3
 have hs3:=hg3.size
 have oI3:=keptI oI hg3 (by omega)
 go_wp2_with fail
 refine (pick_any g _ _ _ hr3 (by omega)).mono ?_
 rintro e w4 ⟨x,rfl,hx0,hx1,hr4,hg4⟩
 have hx2 : x ≤ 1000000:=by omega
 have hgw4:=hgw3.trans hg4
 have hs4:=hg4.size
 have oR4:=keptB (keptB (keptB (keptB oR hg1 hlt) hg2 hlt) hg3 hlt) hg4 hlt
 have oI4:=Own.more (base':=w.heap.size + 1) (keptI oI3 hg4 (by omega)) (by omega)
 have oF4:=Own.more (base':=w.heap.size + 1) (keptH oF hg4 (by omega)) (by omega)
 clear oI oI3 oF oR hg1 hg2 hg3 hg4 hr1 hr2 hr3 hgw1 hgw2 hgw3 hgA hrA hx1
 have hrT:=hr4.alloc (.cells #[.int .i64 x,.int .i64 1000000] 3)
 have oRT:=Own.below oR4 ((Below.refl _ _).alloc (Nat.le_refl _) (.cells #[.int .i64 x,.int .i64 1000000] 3))
 have oIT:=Own.below oI4 ((Below.refl _ _).alloc (Nat.le_refl _) (.cells #[.int .i64 x,.int .i64 1000000] 3))
 have oFT:=Own.below oF4 ((Below.refl _ _).alloc (Nat.le_refl _) (.cells #[.int .i64 x,.int .i64 1000000] 3))
 have hgT:=only_alloc w (some g) hgw4 (.cells #[.int .i64 x,.int .i64 1000000] 3)
 have hzT : w4.heap.size < (w4.alloc (.cells #[.int .i64 x,.int .i64 1000000] 3)).heap.size:=by simp
 go_wp2_with fail
 refine (pick_any g _ _ _ hrT (by omega)).mono ?_
 rintro e w5 ⟨y,rfl,hy0,hy1,hr5,hg5⟩
 have hy2 : y ≤ 13:=by omega
 have htab:=tab_cell hg5 (by omega)
 obtain ⟨z,hz,hyz⟩ : ∃ z : Nat,z < 2 ∧ y / 13 = (z : Int):=⟨(y / 13).toNat,by omega,by omega⟩
 obtain ⟨nx,hnx0,hnx1,hcx⟩ : ∃ nx : Int,-1 ≤ nx ∧ nx ≤ 1000001 ∧ w5.cell? ⟨w4.heap.size,z,none⟩ = some (.int .i64 nx):=by
  rw [htab z]
  match z,hz with
  | 0,_ => exact ⟨x,by omega,by omega,rfl⟩
  | 1,_ => exact ⟨1000000,by omega,by omega,rfl⟩
 have oR5:=keptB oRT hg5 hlt
 have oI5:=keptI oIT hg5 (by omega)
 have oF5:=keptH oFT hg5 (by omega)
 have hgw5:=hgT.trans hg5
 have hs5:=hg5.size
 have hz2 : (z : Int) < 2:=by omega
 clear htab oR4 oI4 oF4 oRT oIT oFT hgT hg5 hrT hr4 hgw4
 have o6 : Own (w5.alloc (.cells #[Value.string who.1,Value.string who.2,Value.slice I is.length ci,Value.slice F fs.length cf,Value.int .i64 nx] 33)) (w.heap.size + 1) 33 5 (some ⟨w5.heap.size,0,none⟩) 1 1 (brF who (Value.slice I is.length ci) (Value.slice F fs.length cf) nx):=Own.more (Own.lit w5 33 5 1 #[Value.string who.1,Value.string who.2,Value.slice I is.length ci,Value.slice F fs.length cf,Value.int .i64 nx] (brF who (Value.slice I is.length ci) (Value.slice F fs.length cf) nx) (by simp only [maxLen]; omega) rfl) (by omega)
 have oR6:=Own.below oR5 ((Below.refl _ _).alloc (Nat.le_refl _) (.cells #[Value.string who.1,Value.string who.2,Value.slice I is.length ci,Value.slice F fs.length cf,Value.int .i64 nx] 33))
 have oI6:=Own.below oI5 ((Below.refl _ _).alloc (Nat.le_refl _) (.cells #[Value.string who.1,Value.string who.2,Value.slice I is.length ci,Value.slice F fs.length cf,Value.int .i64 nx] 33))
 have oF6:=Own.below oF5 ((Below.refl _ _).alloc (Nat.le_refl _) (.cells #[Value.string who.1,Value.string who.2,Value.slice I is.length ci,Value.slice F fs.length cf,Value.int .i64 nx] 33))
 have hr6:=hr5.alloc (.cells #[Value.string who.1,Value.string who.2,Value.slice I is.length ci,Value.slice F fs.length cf,Value.int .i64 nx] 33)
 have hgw6:=only_alloc w (some g) hgw5 (.cells #[Value.string who.1,Value.string who.2,Value.slice I is.length ci,Value.slice F fs.length cf,Value.int .i64 nx] 33)
 have HNI : Hid (blk I = none ∨ blk I ≠ some w5.heap.size):=Lib.hid (by
  cases hb : blk I with
  | none => exact .inl rfl
  | some b => exact .inr (fun e => by injection e with e; have:=(Own.lt oI5 hb).2; omega))
 have HNF : Hid (blk F = none ∨ blk F ≠ some w5.heap.size):=Lib.hid (by
  cases hb : blk F with
  | none => exact .inl rfl
  | some b => exact .inr (fun e => by injection e with e; have:=(Own.lt oF5 hb).2; omega))
 have hz6 : w5.heap.size < (w5.alloc (.cells #[Value.string who.1,Value.string who.2,Value.slice I is.length ci,Value.slice F fs.length cf,Value.int .i64 nx] 33)).heap.size:=by simp
 go_wp2_with fail
 clear hyz hcx
 generalize (w5.alloc (.cells #[Value.string who.1,Value.string who.2,Value.slice I is.length ci,Value.slice F fs.length cf,Value.int .i64 nx] 33)) = w6 at *
 clear oR5 oI5 oF5 hr5 hgw5
 refine (odd_any g _ _ _ hr6 (by omega) hn hn2).mono ?_
 rintro e w7 ⟨q,rfl,hr7,hg7⟩
 have o7:=keptB o6 hg7 (by omega)
 have oR7:=keptB oR6 hg7 hlt
 have oI7:=keptI oI6 hg7 (by omega)
 have oF7:=keptH oF6 hg7 (by omega)
 have hgw7:=hgw6.trans hg7
 have hs7:=hg7.size
 clear o6 oR6 oI6 oF6 hr6 hgw6 hg7
 cases q
 ·skip
  have k0 : _ = some (Value.string who.1):=o7.cell (b:=w5.heap.size) rfl (j:=0) (by omega)
  have kf0:=o7.frozen (b:=w5.heap.size) rfl 0
  have k1 : _ = some (Value.string who.2):=o7.cell (b:=w5.heap.size) rfl (j:=1) (by omega)
  have kf1:=o7.frozen (b:=w5.heap.size) rfl 1
  have k2 : _ = some (Value.slice I is.length ci):=o7.cell (b:=w5.heap.size) rfl (j:=2) (by omega)
  have kf2:=o7.frozen (b:=w5.heap.size) rfl 2
  have k3 : _ = some (Value.slice F fs.length cf):=o7.cell (b:=w5.heap.size) rfl (j:=3) (by omega)
  have kf3:=o7.frozen (b:=w5.heap.size) rfl 3
  have k4 : _ = some (Value.int .i64 nx):=o7.cell (b:=w5.heap.size) rfl (j:=4) (by omega)
  have kf4:=o7.frozen (b:=w5.heap.size) rfl 4
  have r0 : _ = some (Value.string { data:=#[] }):=oR7.cell (b:=w.heap.size) rfl (j:=0) (by omega)
  have rf0:=oR7.frozen (b:=w.heap.size) rfl 0
  have r1 : _ = some (Value.string { data:=#[] }):=oR7.cell (b:=w.heap.size) rfl (j:=1) (by omega)
  have rf1:=oR7.frozen (b:=w.heap.size) rfl 1
  have r2 : _ = some (Value.slice none 0 0):=oR7.cell (b:=w.heap.size) rfl (j:=2) (by omega)
  have rf2:=oR7.frozen (b:=w.heap.size) rfl 2
  have r3 : _ = some (Value.slice none 0 0):=oR7.cell (b:=w.heap.size) rfl (j:=3) (by omega)
  have rf3:=oR7.frozen (b:=w.heap.size) rfl 3
  have r4 : _ = some (Value.int .i64 0):=oR7.cell (b:=w.heap.size) rfl (j:=4) (by omega)
  have rf4:=oR7.frozen (b:=w.heap.size) rfl 4
  have hbF : Below w.heap.size w7 (((((w7.setCell ⟨w.heap.size,0,none⟩ (Value.string who.1)).setCell ⟨w.heap.size,1,none⟩ (Value.string who.2)).setCell ⟨w.heap.size,2,none⟩ (Value.slice I is.length ci)).setCell ⟨w.heap.size,3,none⟩ (Value.slice F fs.length cf)).setCell ⟨w.heap.size,4,none⟩ (Value.int .i64 nx)):=((((((Below.refl w.heap.size w7).setCell (p:=⟨w.heap.size,0,none⟩) (Nat.le_refl _) (Value.string who.1)).setCell (p:=⟨w.heap.size,1,none⟩) (Nat.le_refl _) (Value.string who.2)).setCell (p:=⟨w.heap.size,2,none⟩) (Nat.le_refl _) (Value.slice I is.length ci)).setCell (p:=⟨w.heap.size,3,none⟩) (Nat.le_refl _) (Value.slice F fs.length cf)).setCell (p:=⟨w.heap.size,4,none⟩) (Nat.le_refl _) (Value.int .i64 nx))
  have hgF:=Lib.hid (only_below hgw7 hbF (Nat.le_refl _))
  have hrF:=Lib.hid (hr7.below hbF hlt)
  have G1:=Own.more (base':=w.heap.size) (own_set (own_set (own_set (own_set (own_set oI7 w.heap.size 0 (Value.string who.1) (by omega)) w.heap.size 1 (Value.string who.2) (by omega)) w.heap.size 2 (Value.slice I is.length ci) (by omega)) w.heap.size 3 (Value.slice F fs.length cf) (by omega)) w.heap.size 4 (Value.int .i64 nx) (by omega)) (by omega)
  have G2:=Own.more (base':=w.heap.size) (own_set (own_set (own_set (own_set (own_set oF7 w.heap.size 0 (Value.string who.1) (by omega)) w.heap.size 1 (Value.string who.2) (by omega)) w.heap.size 2 (Value.slice I is.length ci) (by omega)) w.heap.size 3 (Value.slice F fs.length cf) (by omega)) w.heap.size 4 (Value.int .i64 nx) (by omega)) (by omega)
  clear hbF oI7 oF7 o7 oR7
  go_wp2_with fail
  exact bodyPost_ret (v:=.agg #[.string who.1,.string who.2,.slice I is.length ci,.slice F fs.length cf,.int .i64 nx]) (by simp [results,Tryz.results62,go_sem,r0,r1,r2,r3,r4]) rfl ⟨who,I,ci,is,F,cf,fs,nx,rfl,⟨hw0,hw1⟩,⟨hil,HIZ.out⟩,⟨hfl,HFZ.out⟩,⟨hnx0,hnx1⟩,G1,G2,hrF.out.more (by omega),hgF.out⟩
 ·go_wp2_with fail
  refine (pick_any g _ _ _ hr7 (by omega)).mono ?_
  rintro e w8 ⟨c,rfl,hc0,hc1,hr8,hg8⟩
  have o8:=keptB o7 hg8 (by omega)
  have oR8:=keptB oR7 hg8 hlt
  have oI8:=keptI oI7 hg8 (by omega)
  have oF8:=keptH oF7 hg8 (by omega)
  have hgw8:=hgw7.trans hg8
  have hs8:=hg8.size
  clear o7 oR7 oI7 oF7 hr7 hgw7 hg8
  rcases (by omega : c = 0 ∨ c = 1 ∨ c = 2 ∨ c = 3) with rfl | rfl | rfl | rfl
  ·skip
   have neI : blk I = none ∨ blk I ≠ some w5.heap.size:=HNI.out
   have neF : blk F = none ∨ blk F ≠ some w5.heap.size:=HNF.out
   have k0 : _ = some (Value.string who.1):=o8.cell (b:=w5.heap.size) rfl (j:=0) (by omega)
   have kf0:=o8.frozen (b:=w5.heap.size) rfl 0
   have k1 : _ = some (Value.string who.2):=o8.cell (b:=w5.heap.size) rfl (j:=1) (by omega)
   have kf1:=o8.frozen (b:=w5.heap.size) rfl 1
   have k2 : _ = some (Value.slice I is.length ci):=o8.cell (b:=w5.heap.size) rfl (j:=2) (by omega)
   have kf2:=o8.frozen (b:=w5.heap.size) rfl 2
   have k3 : _ = some (Value.slice F fs.length cf):=o8.cell (b:=w5.heap.size) rfl (j:=3) (by omega)
   have kf3:=o8.frozen (b:=w5.heap.size) rfl 3
   have k4 : _ = some (Value.int .i64 nx):=o8.cell (b:=w5.heap.size) rfl (j:=4) (by omega)
   have kf4:=o8.frozen (b:=w5.heap.size) rfl 4
   have r0 : _ = some (Value.string { data:=#[] }):=oR8.cell (b:=w.heap.size) rfl (j:=0) (by omega)
   have rf0:=oR8.frozen (b:=w.heap.size) rfl 0
   have r1 : _ = some (Value.string { data:=#[] }):=oR8.cell (b:=w.heap.size) rfl (j:=1) (by omega)
   have rf1:=oR8.frozen (b:=w.heap.size) rfl 1
   have r2 : _ = some (Value.slice none 0 0):=oR8.cell (b:=w.heap.size) rfl (j:=2) (by omega)
   have rf2:=oR8.frozen (b:=w.heap.size) rfl 2
   have r3 : _ = some (Value.slice none 0 0):=oR8.cell (b:=w.heap.size) rfl (j:=3) (by omega)
   have rf3:=oR8.frozen (b:=w.heap.size) rfl 3
   have r4 : _ = some (Value.int .i64 0):=oR8.cell (b:=w.heap.size) rfl (j:=4) (by omega)
   have rf4:=oR8.frozen (b:=w.heap.size) rfl 4
   have hbF : Below w.heap.size w8 (((((((w8.setCell ⟨w5.heap.size,0,none⟩ (Value.string { data:=#[] })).setCell ⟨w5.heap.size,1,none⟩ (Value.string { data:=#[] })).setCell ⟨w.heap.size,0,none⟩ (Value.string { data:=#[] })).setCell ⟨w.heap.size,1,none⟩ (Value.string { data:=#[] })).setCell ⟨w.heap.size,2,none⟩ (Value.slice I is.length ci)).setCell ⟨w.heap.size,3,none⟩ (Value.slice F fs.length cf)).setCell ⟨w.heap.size,4,none⟩ (Value.int .i64 nx)):=((((((((Below.refl w.heap.size w8).setCell (p:=⟨w5.heap.size,0,none⟩) (by show w.heap.size ≤ w5.heap.size; omega) (Value.string { data:=#[] })).setCell (p:=⟨w5.heap.size,1,none⟩) (by show w.heap.size ≤ w5.heap.size; omega) (Value.string { data:=#[] })).setCell (p:=⟨w.heap.size,0,none⟩) (Nat.le_refl _) (Value.string { data:=#[] })).setCell (p:=⟨w.heap.size,1,none⟩) (Nat.le_refl _) (Value.string { data:=#[] })).setCell (p:=⟨w.heap.size,2,none⟩) (Nat.le_refl _) (Value.slice I is.length ci)).setCell (p:=⟨w.heap.size,3,none⟩) (Nat.le_refl _) (Value.slice F fs.length cf)).setCell (p:=⟨w.heap.size,4,none⟩) (Nat.le_refl _) (Value.int .i64 nx))
   have hgF:=Lib.hid (only_below hgw8 hbF (Nat.le_refl _))
   have hrF:=Lib.hid (hr8.below hbF hlt)
   have G1:=Own.more (base':=w.heap.size) (own_set (own_set (own_set (own_set (own_set (Own.kept (Own.kept oI8 (set_grown _ w5.heap.size 0 (Value.string { data:=#[] })) neI) (set_grown _ w5.heap.size 1 (Value.string { data:=#[] })) neI) w.heap.size 0 (Value.string { data:=#[] }) (by omega)) w.heap.size 1 (Value.string { data:=#[] }) (by omega)) w.heap.size 2 (Value.slice I is.length ci) (by omega)) w.heap.size 3 (Value.slice F fs.length cf) (by omega)) w.heap.size 4 (Value.int .i64 nx) (by omega)) (by omega)
   have G2:=Own.more (base':=w.heap.size) (own_set (own_set (own_set (own_set (own_set (Own.kept (Own.kept oF8 (set_grown _ w5.heap.size 0 (Value.string { data:=#[] })) neF) (set_grown _ w5.heap.size 1 (Value.string { data:=#[] })) neF) w.heap.size 0 (Value.string { data:=#[] }) (by omega)) w.heap.size 1 (Value.string { data:=#[] }) (by omega)) w.heap.size 2 (Value.slice I is.length ci) (by omega)) w.heap.size 3 (Value.slice F fs.length cf) (by omega)) w.heap.size 4 (Value.int .i64 nx) (by omega)) (by omega)
   clear hbF oI8 oF8 o8 oR8
   go_wp2_with fail
   exact bodyPost_ret (v:=.agg #[.string (({ data:=#[] },{ data:=#[] }) : ElHandle).1,.string (({ data:=#[] },{ data:=#[] }) : ElHandle).2,.slice I is.length ci,.slice F fs.length cf,.int .i64 nx]) (by simp [results,Tryz.results62,go_sem,r0,r1,r2,r3,r4]) rfl ⟨(({ data:=#[] },{ data:=#[] }) : ElHandle),I,ci,is,F,cf,fs,nx,rfl,⟨by decide,by decide⟩,⟨hil,HIZ.out⟩,⟨hfl,HFZ.out⟩,⟨hnx0,hnx1⟩,G1,G2,hrF.out.more (by omega),hgF.out⟩
  ·go_wp2_with fail
   refine (l20Feed_any g _ _ _ hr8 (by omega) (by omega) (by omega)).mono ?_
   rintro e w9 ⟨I2,ci2,is2,rfl,hil2,hiz2,oI2,hr9,hg9⟩
   have HIZ2:=Lib.hid hiz2
   clear hiz2
   have o9:=keptB o8 hg9 (by omega)
   have oR9:=keptB oR8 hg9 hlt
   have oF9:=keptH oF8 hg9 (by omega)
   have hgw9:=hgw8.trans hg9
   have hs9:=hg9.size
   have oI9:=Own.more (base':=w.heap.size + 1) oI2 (by omega)
   have neF : blk F = none ∨ blk F ≠ some w5.heap.size:=HNF.out
   have neI : blk I2 = none ∨ blk I2 ≠ some w5.heap.size:=by
    cases hb : blk I2 with
    | none => exact .inl rfl
    | some b => exact .inr (fun e => by injection e with e; have:=(Own.lt oI2 hb).1; omega)
   clear o8 oR8 oI8 oF8 hr8 hgw8 hg9 oI2
   have k0 : _ = some (Value.string who.1):=o9.cell (b:=w5.heap.size) rfl (j:=0) (by omega)
   have kf0:=o9.frozen (b:=w5.heap.size) rfl 0
   have k1 : _ = some (Value.string who.2):=o9.cell (b:=w5.heap.size) rfl (j:=1) (by omega)
   have kf1:=o9.frozen (b:=w5.heap.size) rfl 1
   have k2 : _ = some (Value.slice I is.length ci):=o9.cell (b:=w5.heap.size) rfl (j:=2) (by omega)
   have kf2:=o9.frozen (b:=w5.heap.size) rfl 2
   have k3 : _ = some (Value.slice F fs.length cf):=o9.cell (b:=w5.heap.size) rfl (j:=3) (by omega)
   have kf3:=o9.frozen (b:=w5.heap.size) rfl 3
   have k4 : _ = some (Value.int .i64 nx):=o9.cell (b:=w5.heap.size) rfl (j:=4) (by omega)
   have kf4:=o9.frozen (b:=w5.heap.size) rfl 4
   have r0 : _ = some (Value.string { data:=#[] }):=oR9.cell (b:=w.heap.size) rfl (j:=0) (by omega)
   have rf0:=oR9.frozen (b:=w.heap.size) rfl 0
   have r1 : _ = some (Value.string { data:=#[] }):=oR9.cell (b:=w.heap.size) rfl (j:=1) (by omega)
   have rf1:=oR9.frozen (b:=w.heap.size) rfl 1
   have r2 : _ = some (Value.slice none 0 0):=oR9.cell (b:=w.heap.size) rfl (j:=2) (by omega)
   have rf2:=oR9.frozen (b:=w.heap.size) rfl 2
   have r3 : _ = some (Value.slice none 0 0):=oR9.cell (b:=w.heap.size) rfl (j:=3) (by omega)
   have rf3:=oR9.frozen (b:=w.heap.size) rfl 3
   have r4 : _ = some (Value.int .i64 0):=oR9.cell (b:=w.heap.size) rfl (j:=4) (by omega)
   have rf4:=oR9.frozen (b:=w.heap.size) rfl 4
   have hbF : Below w.heap.size w9 ((((((w9.setCell ⟨w5.heap.size,2,none⟩ (Value.slice I2 is2.length ci2)).setCell ⟨w.heap.size,0,none⟩ (Value.string who.1)).setCell ⟨w.heap.size,1,none⟩ (Value.string who.2)).setCell ⟨w.heap.size,2,none⟩ (Value.slice I2 is2.length ci2)).setCell ⟨w.heap.size,3,none⟩ (Value.slice F fs.length cf)).setCell ⟨w.heap.size,4,none⟩ (Value.int .i64 nx)):=(((((((Below.refl w.heap.size w9).setCell (p:=⟨w5.heap.size,2,none⟩) (by show w.heap.size ≤ w5.heap.size; omega) (Value.slice I2 is2.length ci2)).setCell (p:=⟨w.heap.size,0,none⟩) (Nat.le_refl _) (Value.string who.1)).setCell (p:=⟨w.heap.size,1,none⟩) (Nat.le_refl _) (Value.string who.2)).setCell (p:=⟨w.heap.size,2,none⟩) (Nat.le_refl _) (Value.slice I2 is2.length ci2)).setCell (p:=⟨w.heap.size,3,none⟩) (Nat.le_refl _) (Value.slice F fs.length cf)).setCell (p:=⟨w.heap.size,4,none⟩) (Nat.le_refl _) (Value.int .i64 nx))
   have hgF:=Lib.hid (only_below hgw9 hbF (Nat.le_refl _))
   have hrF:=Lib.hid (hr9.below hbF hlt)
   have G1:=Own.more (base':=w.heap.size) (own_set (own_set (own_set (own_set (own_set (Own.kept oI9 (set_grown _ w5.heap.size 2 (Value.slice I2 is2.length ci2)) neI) w.heap.size 0 (Value.string who.1) (by omega)) w.heap.size 1 (Value.string who.2) (by omega)) w.heap.size 2 (Value.slice I2 is2.length ci2) (by omega)) w.heap.size 3 (Value.slice F fs.length cf) (by omega)) w.heap.size 4 (Value.int .i64 nx) (by omega)) (by omega)
   have G2:=Own.more (base':=w.heap.size) (own_set (own_set (own_set (own_set (own_set (Own.kept oF9 (set_grown _ w5.heap.size 2 (Value.slice I2 is2.length ci2)) neF) w.heap.size 0 (Value.string who.1) (by omega)) w.heap.size 1 (Value.string who.2) (by omega)) w.heap.size 2 (Value.slice I2 is2.length ci2) (by omega)) w.heap.size 3 (Value.slice F fs.length cf) (by omega)) w.heap.size 4 (Value.int .i64 nx) (by omega)) (by omega)
   clear hbF oI9 oF9 o9 oR9
   go_wp2_with fail
   exact bodyPost_ret (v:=.agg #[.string who.1,.string who.2,.slice I2 is2.length ci2,.slice F fs.length cf,.int .i64 nx]) (by simp [results,Tryz.results62,go_sem,r0,r1,r2,r3,r4]) rfl ⟨who,I2,ci2,is2,F,cf,fs,nx,rfl,⟨hw0,hw1⟩,⟨hil2,HIZ2.out⟩,⟨hfl,HFZ.out⟩,⟨hnx0,hnx1⟩,G1,G2,hrF.out.more (by omega),hgF.out⟩
  ·go_wp2_with fail
   refine (l20Fans_any g _ _ _ hr8 (by omega) (by omega) (by omega)).mono ?_
   rintro e w9 ⟨F2,cf2,fs2,rfl,hfl2,hfz2,oF2,hr9,hg9⟩
   have HFZ2:=Lib.hid hfz2
   clear hfz2
   have o9:=keptB o8 hg9 (by omega)
   have oR9:=keptB oR8 hg9 hlt
   have oI9:=keptI oI8 hg9 (by omega)
   have hgw9:=hgw8.trans hg9
   have hs9:=hg9.size
   have oF9:=Own.more (base':=w.heap.size + 1) oF2 (by omega)
   have neI : blk I = none ∨ blk I ≠ some w5.heap.size:=HNI.out
   have neF : blk F2 = none ∨ blk F2 ≠ some w5.heap.size:=by
    cases hb : blk F2 with
    | none => exact .inl rfl
    | some b => exact .inr (fun e => by injection e with e; have:=(Own.lt oF2 hb).1; omega)
   clear o8 oR8 oI8 oF8 hr8 hgw8 hg9 oF2
   have k0 : _ = some (Value.string who.1):=o9.cell (b:=w5.heap.size) rfl (j:=0) (by omega)
   have kf0:=o9.frozen (b:=w5.heap.size) rfl 0
   have k1 : _ = some (Value.string who.2):=o9.cell (b:=w5.heap.size) rfl (j:=1) (by omega)
   have kf1:=o9.frozen (b:=w5.heap.size) rfl 1
   have k2 : _ = some (Value.slice I is.length ci):=o9.cell (b:=w5.heap.size) rfl (j:=2) (by omega)
   have kf2:=o9.frozen (b:=w5.heap.size) rfl 2
   have k3 : _ = some (Value.slice F fs.length cf):=o9.cell (b:=w5.heap.size) rfl (j:=3) (by omega)
   have kf3:=o9.frozen (b:=w5.heap.size) rfl 3
   have k4 : _ = some (Value.int .i64 nx):=o9.cell (b:=w5.heap.size) rfl (j:=4) (by omega)
   have kf4:=o9.frozen (b:=w5.heap.size) rfl 4
   have r0 : _ = some (Value.string { data:=#[] }):=oR9.cell (b:=w.heap.size) rfl (j:=0) (by omega)
   have rf0:=oR9.frozen (b:=w.heap.size) rfl 0
   have r1 : _ = some (Value.string { data:=#[] }):=oR9.cell (b:=w.heap.size) rfl (j:=1) (by omega)
   have rf1:=oR9.frozen (b:=w.heap.size) rfl 1
   have r2 : _ = some (Value.slice none 0 0):=oR9.cell (b:=w.heap.size) rfl (j:=2) (by omega)
   have rf2:=oR9.frozen (b:=w.heap.size) rfl 2
   have r3 : _ = some (Value.slice none 0 0):=oR9.cell (b:=w.heap.size) rfl (j:=3) (by omega)
   have rf3:=oR9.frozen (b:=w.heap.size) rfl 3
   have r4 : _ = some (Value.int .i64 0):=oR9.cell (b:=w.heap.size) rfl (j:=4) (by omega)
   have rf4:=oR9.frozen (b:=w.heap.size) rfl 4
   have hbF : Below w.heap.size w9 ((((((w9.setCell ⟨w5.heap.size,3,none⟩ (Value.slice F2 fs2.length cf2)).setCell ⟨w.heap.size,0,none⟩ (Value.string who.1)).setCell ⟨w.heap.size,1,none⟩ (Value.string who.2)).setCell ⟨w.heap.size,2,none⟩ (Value.slice I is.length ci)).setCell ⟨w.heap.size,3,none⟩ (Value.slice F2 fs2.length cf2)).setCell ⟨w.heap.size,4,none⟩ (Value.int .i64 nx)):=(((((((Below.refl w.heap.size w9).setCell (p:=⟨w5.heap.size,3,none⟩) (by show w.heap.size ≤ w5.heap.size; omega) (Value.slice F2 fs2.length cf2)).setCell (p:=⟨w.heap.size,0,none⟩) (Nat.le_refl _) (Value.string who.1)).setCell (p:=⟨w.heap.size,1,none⟩) (Nat.le_refl _) (Value.string who.2)).setCell (p:=⟨w.heap.size,2,none⟩) (Nat.le_refl _) (Value.slice I is.length ci)).setCell (p:=⟨w.heap.size,3,none⟩) (Nat.le_refl _) (Value.slice F2 fs2.length cf2)).setCell (p:=⟨w.heap.size,4,none⟩) (Nat.le_refl _) (Value.int .i64 nx))
   have hgF:=Lib.hid (only_below hgw9 hbF (Nat.le_refl _))
   have hrF:=Lib.hid (hr9.below hbF hlt)
   have G1:=Own.more (base':=w.heap.size) (own_set (own_set (own_set (own_set (own_set (Own.kept oI9 (set_grown _ w5.heap.size 3 (Value.slice F2 fs2.length cf2)) neI) w.heap.size 0 (Value.string who.1) (by omega)) w.heap.size 1 (Value.string who.2) (by omega)) w.heap.size 2 (Value.slice I is.length ci) (by omega)) w.heap.size 3 (Value.slice F2 fs2.length cf2) (by omega)) w.heap.size 4 (Value.int .i64 nx) (by omega)) (by omega)
   have G2:=Own.more (base':=w.heap.size) (own_set (own_set (own_set (own_set (own_set (Own.kept oF9 (set_grown _ w5.heap.size 3 (Value.slice F2 fs2.length cf2)) neF) w.heap.size 0 (Value.string who.1) (by omega)) w.heap.size 1 (Value.string who.2) (by omega)) w.heap.size 2 (Value.slice I is.length ci) (by omega)) w.heap.size 3 (Value.slice F2 fs2.length cf2) (by omega)) w.heap.size 4 (Value.int .i64 nx) (by omega)) (by omega)
   clear hbF oI9 oF9 o9 oR9
   go_wp2_with fail
   exact bodyPost_ret (v:=.agg #[.string who.1,.string who.2,.slice I is.length ci,.slice F2 fs2.length cf2,.int .i64 nx]) (by simp [results,Tryz.results62,go_sem,r0,r1,r2,r3,r4]) rfl ⟨who,I,ci,is,F2,cf2,fs2,nx,rfl,⟨hw0,hw1⟩,⟨hil,HIZ.out⟩,⟨hfl2,HFZ2.out⟩,⟨hnx0,hnx1⟩,G1,G2,hrF.out.more (by omega),hgF.out⟩
  ·have hrT:=hr8.alloc (.cells #[.int .i64 (-1),.int .i64 1000001] 3)
   have oT:=Own.below o8 ((Below.refl _ _).alloc (Nat.le_refl _) (.cells #[.int .i64 (-1),.int .i64 1000001] 3))
   have oRT:=Own.below oR8 ((Below.refl _ _).alloc (Nat.le_refl _) (.cells #[.int .i64 (-1),.int .i64 1000001] 3))
   have oIT:=Own.below oI8 ((Below.refl _ _).alloc (Nat.le_refl _) (.cells #[.int .i64 (-1),.int .i64 1000001] 3))
   have oFT:=Own.below oF8 ((Below.refl _ _).alloc (Nat.le_refl _) (.cells #[.int .i64 (-1),.int .i64 1000001] 3))
   have hgT:=only_alloc w (some g) hgw8 (.cells #[.int .i64 (-1),.int .i64 1000001] 3)
   go_wp2_with fail
   refine (pick_any g _ _ _ hrT (by omega)).mono ?_
   rintro e w9 ⟨y3,rfl,hv0,hv1,hr9,hg9⟩
   obtain ⟨z3,rfl⟩:=Int.eq_ofNat_of_zero_le hv0
   have hz3 : z3 < 2:=by omega
   have htab:=tab_cell hg9 (by omega)
   obtain ⟨nx2,hnn0,hnn1,hcy⟩ : ∃ nx : Int,-1 ≤ nx ∧ nx ≤ 1000001 ∧ w9.cell? ⟨w8.heap.size,z3,none⟩ = some (.int .i64 nx):=by
    rw [htab z3]
    match z3,hz3 with
    | 0,_ => exact ⟨-1,by omega,by omega,rfl⟩
    | 1,_ => exact ⟨1000001,by omega,by omega,rfl⟩
   have o9:=keptB oT hg9 (by omega)
   have oR9:=keptB oRT hg9 hlt
   have oI9:=keptI oIT hg9 (by omega)
   have oF9:=keptH oFT hg9 (by omega)
   have hgw9:=hgT.trans hg9
   have hs9:=hg9.size
   simp at hs9
   have hs9b : w8.heap.size ≤ w9.heap.size:=by omega
   have neI : blk I = none ∨ blk I ≠ some w5.heap.size:=HNI.out
   have neF : blk F = none ∨ blk F ≠ some w5.heap.size:=HNF.out
   clear htab o8 oR8 oI8 oF8 hr8 hgw8 hg9 oT oRT oIT oFT hgT hrT
   have k0 : _ = some (Value.string who.1):=o9.cell (b:=w5.heap.size) rfl (j:=0) (by omega)
   have kf0:=o9.frozen (b:=w5.heap.size) rfl 0
   have k1 : _ = some (Value.string who.2):=o9.cell (b:=w5.heap.size) rfl (j:=1) (by omega)
   have kf1:=o9.frozen (b:=w5.heap.size) rfl 1
   have k2 : _ = some (Value.slice I is.length ci):=o9.cell (b:=w5.heap.size) rfl (j:=2) (by omega)
   have kf2:=o9.frozen (b:=w5.heap.size) rfl 2
   have k3 : _ = some (Value.slice F fs.length cf):=o9.cell (b:=w5.heap.size) rfl (j:=3) (by omega)
   have kf3:=o9.frozen (b:=w5.heap.size) rfl 3
   have k4 : _ = some (Value.int .i64 nx):=o9.cell (b:=w5.heap.size) rfl (j:=4) (by omega)
   have kf4:=o9.frozen (b:=w5.heap.size) rfl 4
   have r0 : _ = some (Value.string { data:=#[] }):=oR9.cell (b:=w.heap.size) rfl (j:=0) (by omega)
   have rf0:=oR9.frozen (b:=w.heap.size) rfl 0
   have r1 : _ = some (Value.string { data:=#[] }):=oR9.cell (b:=w.heap.size) rfl (j:=1) (by omega)
   have rf1:=oR9.frozen (b:=w.heap.size) rfl 1
   have r2 : _ = some (Value.slice none 0 0):=oR9.cell (b:=w.heap.size) rfl (j:=2) (by omega)
   have rf2:=oR9.frozen (b:=w.heap.size) rfl 2
   have r3 : _ = some (Value.slice none 0 0):=oR9.cell (b:=w.heap.size) rfl (j:=3) (by omega)
   have rf3:=oR9.frozen (b:=w.heap.size) rfl 3
   have r4 : _ = some (Value.int .i64 0):=oR9.cell (b:=w.heap.size) rfl (j:=4) (by omega)
   have rf4:=oR9.frozen (b:=w.heap.size) rfl 4
   have hbF : Below w.heap.size w9 ((((((w9.setCell ⟨w5.heap.size,4,none⟩ (Value.int .i64 nx2)).setCell ⟨w.heap.size,0,none⟩ (Value.string who.1)).setCell ⟨w.heap.size,1,none⟩ (Value.string who.2)).setCell ⟨w.heap.size,2,none⟩ (Value.slice I is.length ci)).setCell ⟨w.heap.size,3,none⟩ (Value.slice F fs.length cf)).setCell ⟨w.heap.size,4,none⟩ (Value.int .i64 nx2)):=(((((((Below.refl w.heap.size w9).setCell (p:=⟨w5.heap.size,4,none⟩) (by show w.heap.size ≤ w5.heap.size; omega) (Value.int .i64 nx2)).setCell (p:=⟨w.heap.size,0,none⟩) (Nat.le_refl _) (Value.string who.1)).setCell (p:=⟨w.heap.size,1,none⟩) (Nat.le_refl _) (Value.string who.2)).setCell (p:=⟨w.heap.size,2,none⟩) (Nat.le_refl _) (Value.slice I is.length ci)).setCell (p:=⟨w.heap.size,3,none⟩) (Nat.le_refl _) (Value.slice F fs.length cf)).setCell (p:=⟨w.heap.size,4,none⟩) (Nat.le_refl _) (Value.int .i64 nx2))
   have hgF:=Lib.hid (only_below hgw9 hbF (Nat.le_refl _))
   have hrF:=Lib.hid (hr9.below hbF hlt)
   have G1:=Own.more (base':=w.heap.size) (own_set (own_set (own_set (own_set (own_set (Own.kept oI9 (set_grown _ w5.heap.size 4 (Value.int .i64 nx2)) neI) w.heap.size 0 (Value.string who.1) (by omega)) w.heap.size 1 (Value.string who.2) (by omega)) w.heap.size 2 (Value.slice I is.length ci) (by omega)) w.heap.size 3 (Value.slice F fs.length cf) (by omega)) w.heap.size 4 (Value.int .i64 nx2) (by omega)) (by omega)
   have G2:=Own.more (base':=w.heap.size) (own_set (own_set (own_set (own_set (own_set (Own.kept oF9 (set_grown _ w5.heap.size 4 (Value.int .i64 nx2)) neF) w.heap.size 0 (Value.string who.1) (by omega)) w.heap.size 1 (Value.string who.2) (by omega)) w.heap.size 2 (Value.slice I is.length ci) (by omega)) w.heap.size 3 (Value.slice F fs.length cf) (by omega)) w.heap.size 4 (Value.int .i64 nx2) (by omega)) (by omega)
   clear hbF oI9 oF9 o9 oR9
   go_wp2_with fail
   exact bodyPost_ret (v:=.agg #[.string who.1,.string who.2,.slice I is.length ci,.slice F fs.length cf,.int .i64 nx2]) (by simp [results,Tryz.results62,go_sem,r0,r1,r2,r3,r4]) rfl ⟨who,I,ci,is,F,cf,fs,nx2,rfl,⟨hw0,hw1⟩,⟨hil,HIZ.out⟩,⟨hfl,HFZ.out⟩,⟨hnn0,hnn1⟩,G1,G2,hrF.out.more (by omega),hgF.out⟩
end Go.Proofs.YtfnmlffpnmmcdaaGreatDoor
namespace Go.Proofs.YtfnmlffpnmmcdaaGreatDoor
set_option maxRecDepth 100000
open Go.RowKit
def DrewCl (g m : Nat) (w : World) (e : Ending) (w' : World) : Prop:=∃ s : ByteArray,e = .returned (.string s) ∧ s.size ≤ 9000 ∧ Rdr w' g m ∧ w.grownBy w' (some g)
set_option maxHeartbeats 1600000 in
theorem l20Call_any (g m : Nat) (w : World) (h : Rdr w g m) (hm : m ≤ 800000) :
    Calls Tryz.prog 63 #[.pointer (some ⟨g,0,none⟩)] w (DrewCl g (m + 20) w):=by
 have hlt:=h.lt
 go_enter Tryz.func63,Tryz.ntmps63
 go_wp2_with fail
 refine (pick_any g m _ _ h (by omega)).mono ?_
 rintro e w1 ⟨y,rfl,hy0,hy1,hr1,hg1⟩
 obtain ⟨y,rfl⟩:=Int.eq_ofNat_of_zero_le hy0
 have hyb : y < 6:=by omega
 have hs1:=hg1.size
 clear hy0 hy1
 rcases (by omega : y = 0 ∨ y = 1 ∨ y = 2 ∨ y = 3 ∨ y = 4 ∨ y = 5) with rfl | rfl | rfl | rfl | rfl | rfl
 ·skip
  go_wp2_with fail
  refine (l20Item_any g _ _ _ hr1 (by omega) (by omega) (by omega)).mono ?_
  rintro e w2 ⟨p,rfl,hp0,hp1,hp2,hr2,hg2⟩
  have hg12:=hg1.trans hg2
  have hz2:=hg2.size
  go_wp2_with fail
  refine (specItemText_some p.1 p.2.1 p.2.2.1 p.2.2.2 w2 (by simp only [maxLen]; omega) (by simp only [maxLen]; omega) (by simp only [maxLen]; omega)).mono ?_
  rintro e w3 ⟨⟨s,rfl,hs⟩,b3⟩
  have e1 : ({ data:=#[105,116,101,109,32] } : ByteArray).size = 5:=rfl
  go_wp2_with fail
  go_ret
  refine ⟨_,rfl,by simp only [ByteArray.size_append]; omega,(hr2.below b3 (by omega)).more (by omega),only_below hg12 b3 (by omega)⟩
 ·skip
  go_wp2_with fail
  refine (l20Item_any g _ _ _ hr1 (by omega) (by omega) (by omega)).mono ?_
  rintro e w2 ⟨p,rfl,hp0,hp1,hp2,hr2,hg2⟩
  have hg12:=hg1.trans hg2
  have hz2:=hg2.size
  go_wp2_with fail
  refine (specItemText_some p.1 p.2.1 p.2.2.1 p.2.2.2 w2 (by simp only [maxLen]; omega) (by simp only [maxLen]; omega) (by simp only [maxLen]; omega)).mono ?_
  rintro e w3 ⟨⟨s,rfl,hs⟩,b3⟩
  have e1 : ({ data:=#[105,116,101,109,32] } : ByteArray).size = 5:=rfl
  go_wp2_with fail
  go_ret
  refine ⟨_,rfl,by simp only [ByteArray.size_append]; omega,(hr2.below b3 (by omega)).more (by omega),only_below hg12 b3 (by omega)⟩
 ·skip
  have hrT:=hr1.alloc (.cells #[.string { data:=#[107,49] },.string { data:=#[107,50] },.string { data:=#[107,51] },.string { data:=#[110,111,110,101] }] 9)
  have hgT:=only_alloc w (some g) hg1 (.cells #[.string { data:=#[107,49] },.string { data:=#[107,50] },.string { data:=#[107,51] },.string { data:=#[110,111,110,101] }] 9)
  go_wp2_with fail
  refine (pick_any g _ _ _ hrT (by omega)).mono ?_
  rintro e w2 ⟨z,rfl,hz0,hz1,hr2,hg2⟩
  obtain ⟨z,rfl⟩:=Int.eq_ofNat_of_zero_le hz0
  have hz : z < 4:=by omega
  have hzi : (z : Int) < 4:=by omega
  have htab:=tab_cell hg2 (by omega)
  obtain ⟨s,hs,hcs⟩ : ∃ s : ByteArray,s.size ≤ 20 ∧ w2.cell? ⟨w1.heap.size,z,none⟩ = some (.string s):=by
   rw [htab z]
   match z,hz with
   | 0,_ => exact ⟨{ data:=#[107,49] },by decide,rfl⟩
   | 1,_ => exact ⟨{ data:=#[107,50] },by decide,rfl⟩
   | 2,_ => exact ⟨{ data:=#[107,51] },by decide,rfl⟩
   | 3,_ => exact ⟨{ data:=#[110,111,110,101] },by decide,rfl⟩
  have hg12:=hgT.trans hg2
  clear htab hz0 hz1 hrT hgT hr1 hg1 hg2
  go_wp2_with fail
  go_ret
  have e1 : ({ data:=#[103,111,110,101,32] } : ByteArray).size = 5:=rfl
  exact ⟨_,rfl,by simp only [ByteArray.size_append]; omega,hr2.more (by omega),hg12⟩
 ·skip
  go_wp2_with fail
  refine (l20Handle_any g _ _ _ hr1 (by omega) (by omega) (by omega)).mono ?_
  rintro e w2 ⟨p,rfl,hp0,hp1,hr2,hg2⟩
  have hg12:=hg1.trans hg2
  have hz2:=hg2.size
  go_wp2_with fail
  refine (specHandleText_any p.1 p.2 w2 (by simp only [maxLen]; omega) (by simp only [maxLen]; omega)).mono ?_
  rintro e w3 ⟨rfl,b3⟩
  have hhs:=htOf_size (p.1,p.2)
  have e1 : ({ data:=#[102,111,108,108,111,119,32] } : ByteArray).size = 7:=rfl
  go_wp2_with fail
  go_ret
  refine ⟨_,rfl,by simp only [ByteArray.size_append]; omega,(hr2.below b3 (by omega)).more (by omega),only_below hg12 b3 (by omega)⟩
 ·skip
  go_wp2_with fail
  refine (l20Handle_any g _ _ _ hr1 (by omega) (by omega) (by omega)).mono ?_
  rintro e w2 ⟨p,rfl,hp0,hp1,hr2,hg2⟩
  have hg12:=hg1.trans hg2
  have hz2:=hg2.size
  go_wp2_with fail
  refine (specHandleText_any p.1 p.2 w2 (by simp only [maxLen]; omega) (by simp only [maxLen]; omega)).mono ?_
  rintro e w3 ⟨rfl,b3⟩
  have hhs:=htOf_size (p.1,p.2)
  have e1 : ({ data:=#[108,101,97,118,101,32] } : ByteArray).size = 6:=rfl
  go_wp2_with fail
  go_ret
  refine ⟨_,rfl,by simp only [ByteArray.size_append]; omega,(hr2.below b3 (by omega)).more (by omega),only_below hg12 b3 (by omega)⟩
 ·skip
  have hrT:=hr1.alloc (.cells #[.string { data:=#[] },.string { data:=#[102,97,110,115] },.string { data:=#[102,97,110,115] },.string { data:=#[102,97,110,115,32,120] },.string { data:=#[105,116,101,109] },.string { data:=#[100,97,110,99,101] },.string { data:=#[102,111,108,108,111,119,32,97,110,110] }] 9)
  have hgT:=only_alloc w (some g) hg1 (.cells #[.string { data:=#[] },.string { data:=#[102,97,110,115] },.string { data:=#[102,97,110,115] },.string { data:=#[102,97,110,115,32,120] },.string { data:=#[105,116,101,109] },.string { data:=#[100,97,110,99,101] },.string { data:=#[102,111,108,108,111,119,32,97,110,110] }] 9)
  go_wp2_with fail
  refine (pick_any g _ _ _ hrT (by omega)).mono ?_
  rintro e w2 ⟨z,rfl,hz0,hz1,hr2,hg2⟩
  obtain ⟨z,rfl⟩:=Int.eq_ofNat_of_zero_le hz0
  have hz : z < 7:=by omega
  have hzi : (z : Int) < 7:=by omega
  have htab:=tab_cell hg2 (by omega)
  obtain ⟨s,hs,hcs⟩ : ∃ s : ByteArray,s.size ≤ 20 ∧ w2.cell? ⟨w1.heap.size,z,none⟩ = some (.string s):=by
   rw [htab z]
   match z,hz with
   | 0,_ => exact ⟨{ data:=#[] },by decide,rfl⟩
   | 1,_ => exact ⟨{ data:=#[102,97,110,115] },by decide,rfl⟩
   | 2,_ => exact ⟨{ data:=#[102,97,110,115] },by decide,rfl⟩
   | 3,_ => exact ⟨{ data:=#[102,97,110,115,32,120] },by decide,rfl⟩
   | 4,_ => exact ⟨{ data:=#[105,116,101,109] },by decide,rfl⟩
   | 5,_ => exact ⟨{ data:=#[100,97,110,99,101] },by decide,rfl⟩
   | 6,_ => exact ⟨{ data:=#[102,111,108,108,111,119,32,97,110,110] },by decide,rfl⟩
  have hg12:=hgT.trans hg2
  clear htab hz0 hz1 hrT hgT hr1 hg1 hg2
  go_wp2_with fail
  go_ret
  exact ⟨_,rfl,by omega,hr2.more (by omega),hg12⟩
end Go.Proofs.YtfnmlffpnmmcdaaGreatDoor
namespace Go.Proofs.YtfnmlffpnmmcdaaGreatDoor
set_option maxRecDepth 100000
open Go.RowKit
def DrawnBl (w : World) (e : Ending) (w' : World) : Prop:=∃ (who : ElHandle) (I : Option Addr) (ci : Nat) (is : List ElItem) (F : Option Addr) (cf : Nat) (fs : List ElHandle) (nx : Int) (ln : ByteArray),e = .returned (.tuple #[.agg #[.string who.1,.string who.2,.slice I is.length ci,.slice F fs.length cf,.int .i64 nx],.string ln]) ∧ (who.1.size ≤ 9 ∧ who.2.size ≤ 9) ∧ (is.length ≤ 7 ∧ ∀ x ∈ is,x.1.size ≤ 81 ∧ x.2.1.size ≤ 81 ∧ x.2.2.1.size ≤ 81) ∧ (fs.length ≤ 6 ∧ ∀ x ∈ fs,x.1.size ≤ 9 ∧ x.2.size ≤ 9) ∧ (-1 ≤ nx ∧ nx ≤ 1000001) ∧ ln.size ≤ 9000 ∧ OwnE 4 encItem 69 w' w.heap.size I ci is ∧ OwnE 2 encHandle 29 w' w.heap.size F cf fs ∧ Below w.heap.size w w'
theorem own_setB {w : World} {base e sz n cap : Nat} {A : Option Addr} {f : Nat → Value} (h : Own w base e sz A n cap f) (b o : Nat) (u : Value) (hb : b < base) : Own (w.setCell ⟨b,o,none⟩ u) base e sz A n cap f:=own_set h b o u hb
set_option maxHeartbeats 1600000 in
theorem DrawBridgeLine_any (A : Option Addr) (cap B : Nat) (cs : List Int) (w : World) (h : RdU w B A cs) (hB : B ≤ w.heap.size) (hb : ∀ j,0 ≤ PP.at_ cs j ∧ PP.at_ cs j ≤ 255) (hc : cs.length ≤ cap) (hl : cs.length ≤ 1048576) :
    Calls Tryz.prog 14 #[.slice A cs.length cap] w (DrawnBl w):=by
 have oR : Own (w.alloc (.cells #[Value.string { data:=#[] },Value.string { data:=#[] },Value.slice none 0 0,Value.slice none 0 0,Value.int .i64 0] 33)) w.heap.size 33 5 (some ⟨w.heap.size,0,none⟩) 1 1 zBr:=Own.lit w 33 5 1 #[Value.string { data:=#[] },Value.string { data:=#[] },Value.slice none 0 0,Value.slice none 0 0,Value.int .i64 0] zBr (by simp only [maxLen]; omega) rfl
 have hbA : Below w.heap.size w (w.alloc (.cells #[Value.string { data:=#[] },Value.string { data:=#[] },Value.slice none 0 0,Value.slice none 0 0,Value.int .i64 0] 33)):=(Below.refl _ _).alloc (Nat.le_refl _) _
 have hzA : w.heap.size < (w.alloc (.cells #[Value.string { data:=#[] },Value.string { data:=#[] },Value.slice none 0 0,Value.slice none 0 0,Value.int .i64 0] 33)).heap.size:=by simp
 have hA : RdU (w.alloc (.cells #[Value.string { data:=#[] },Value.string { data:=#[] },Value.slice none 0 0,Value.slice none 0 0,Value.int .i64 0] 33)) B A cs:=h.below (hbA.mono hB)
 go_enter Tryz.func14,Tryz.ntmps14
 go_wp2_with fail
 generalize (w.alloc (.cells #[Value.string { data:=#[] },Value.string { data:=#[] },Value.slice none 0 0,Value.slice none 0 0,Value.int .i64 0] 33)) = wA at *
 refine (l20Open_any A cap B cs wA hA (Nat.le_trans hB hbA.size) hb hc hl).mono ?_
 rintro e w1 ⟨rfl,hr1,hb1⟩
 have hlt:=hr1.lt
 have hs1:=hb1.size
 have oR1:=Own.below oR hb1
 have hbw1:=hbA.trans (hb1.mono hbA.size)
 clear oR hbA hA
 go_wp2_with fail
 refine (l20Bridge_any _ 0 _ _ hr1 (by omega) (by omega) (by omega)).mono ?_
 rintro e w2 ⟨who,I,ci,is,F,cf,fs,nx,rfl,hw,hi,hf,hn,oI,oF,hr2,hg2⟩
 have HI:=Lib.hid hi
 have HF:=Lib.hid hf
 clear hi hf
 have hs2:=hg2.size
 have oR2:=Own.kept oR1 hg2 (.inr (by simp [blk]; omega))
 have hbw2:=hbw1.trans ((Below.refl w.heap.size _).grown hg2 (by omega) (fun i hi => by injection hi with hi; omega))
 have bX : Below w2.heap.size w2 (w2.alloc (.cells #[Value.string who.1,Value.string who.2,Value.slice I is.length ci,Value.slice F fs.length cf,Value.int .i64 nx] 33)):=(Below.refl _ _).alloc (Nat.le_refl _) _
 have hrX:=hr2.alloc (.cells #[Value.string who.1,Value.string who.2,Value.slice I is.length ci,Value.slice F fs.length cf,Value.int .i64 nx] 33)
 have e0 : (w2.alloc (.cells #[Value.string who.1,Value.string who.2,Value.slice I is.length ci,Value.slice F fs.length cf,Value.int .i64 nx] 33)).cell? ⟨w2.heap.size,0,none⟩ = some (Value.string who.1):=by rw [World.cell?_alloc_at _ _ _ _ rfl]; rfl
 have e1 : (w2.alloc (.cells #[Value.string who.1,Value.string who.2,Value.slice I is.length ci,Value.slice F fs.length cf,Value.int .i64 nx] 33)).cell? ⟨w2.heap.size,1,none⟩ = some (Value.string who.2):=by rw [World.cell?_alloc_at _ _ _ _ rfl]; rfl
 have e2 : (w2.alloc (.cells #[Value.string who.1,Value.string who.2,Value.slice I is.length ci,Value.slice F fs.length cf,Value.int .i64 nx] 33)).cell? ⟨w2.heap.size,2,none⟩ = some (Value.slice I is.length ci):=by rw [World.cell?_alloc_at _ _ _ _ rfl]; rfl
 have e3 : (w2.alloc (.cells #[Value.string who.1,Value.string who.2,Value.slice I is.length ci,Value.slice F fs.length cf,Value.int .i64 nx] 33)).cell? ⟨w2.heap.size,3,none⟩ = some (Value.slice F fs.length cf):=by rw [World.cell?_alloc_at _ _ _ _ rfl]; rfl
 have e4 : (w2.alloc (.cells #[Value.string who.1,Value.string who.2,Value.slice I is.length ci,Value.slice F fs.length cf,Value.int .i64 nx] 33)).cell? ⟨w2.heap.size,4,none⟩ = some (Value.int .i64 nx):=by rw [World.cell?_alloc_at _ _ _ _ rfl]; rfl
 have hzX : w2.heap.size < (w2.alloc (.cells #[Value.string who.1,Value.string who.2,Value.slice I is.length ci,Value.slice F fs.length cf,Value.int .i64 nx] 33)).heap.size:=by simp
 have oRX:=Own.below oR2 bX
 have oIX:=Own.below oI bX
 have oFX:=Own.below oF bX
 have hbwX:=hbw2.trans (bX.mono hbw2.size)
 clear oR1 oR2 hbw1 hbw2 hr1 hr2 hg2 oI oF bX
 go_wp2_with fail
 generalize (w2.alloc (.cells #[Value.string who.1,Value.string who.2,Value.slice I is.length ci,Value.slice F fs.length cf,Value.int .i64 nx] 33)) = wX at *
 refine wp_region_draws wA.heap.size 3 _ [(vS (fun v => v = (.agg #[.string who.1,.string who.2,.slice I is.length ci,.slice F fs.length cf,.int .i64 nx]))),(vS (fun v => v = (.pointer (some ⟨wA.heap.size,0,none⟩)))),(vS (fun v => ∃ t : ByteArray,v = .string t ∧ t.size ≤ 9000))] [0,0,20] (by kernel_rfl) (by kernel_rfl) (by rfl) (by rfl) (by rfl) ?_ hrX ?_ ?_
 ·repeat (first | exact stb_nil _ | refine stb_cons (vS_stb _ _) ?_)
 ·simp only [List.take_succ_cons,List.take_zero]
  refine looseSteps_cons (fun k a' w' hk0 hk1 hR hG hkp hd => ?_) ?_
  ·have k0 : a'.tmps.getD 5 undef = .pointer (some ⟨w2.heap.size,0,none⟩):=hkp 5 (by rfl)
   have hR0 : World.grownBy wX.drew w' (some wA.heap.size):=hR
   have q0:=(cell_stb hR0 (i:=0) (show wA.heap.size < w2.heap.size by omega) hzX).trans e0
   have q1:=(cell_stb hR0 (i:=1) (show wA.heap.size < w2.heap.size by omega) hzX).trans e1
   have q2:=(cell_stb hR0 (i:=2) (show wA.heap.size < w2.heap.size by omega) hzX).trans e2
   have q3:=(cell_stb hR0 (i:=3) (show wA.heap.size < w2.heap.size by omega) hzX).trans e3
   have q4:=(cell_stb hR0 (i:=4) (show wA.heap.size < w2.heap.size by omega) hzX).trans e4
   unfold looseRun
   go_simp
   exact ⟨World.grownBy.refl _ _,hG,rfl⟩
  refine looseSteps_cons (fun k a' w' hk0 hk1 hR hG hkp hd => ?_) ?_
  ·have k0 : a'.tmps.getD 4 undef = (.pointer (some ⟨wA.heap.size,0,none⟩)):=hkp 4 (by rfl)
   unfold looseRun
   go_simp
   exact ⟨World.grownBy.refl _ _,hG,rfl⟩
  refine looseSteps_cons (fun k a' w' hk0 hk1 hR hG hkp hd => ?_) ?_
  ·have e11:=hd.1 rfl
   have e11' : a'.tmps.getD 11 undef = _:=e11
   have e11q:=e11'
   rw [Array.getD_eq_getD_getElem?] at e11q
   clear e11
   unfold looseRun
   go_simp
   refine ⟨rfl,(l20Call_any _ k _ hG (by simp at hk1; omega)).mono ?_⟩
   rintro e w4 ⟨t,rfl,ht,hr4,hg4⟩
   exact ⟨_,rfl,hg4,hr4,t,rfl,ht⟩
  exact looseSteps_nil
 ·intro w4 hg4 hr4
  simp only [List.take_succ_cons,List.take_zero,List.drop_succ_cons,List.drop_zero]
  refine looseAll_cons fun v10 h10 => ?_
  refine looseAll_cons fun v11 h11 => ?_
  refine looseAll_cons fun v12 h12 => ?_
  refine looseAll_nil ?_
  obtain rfl:=h10
  obtain ⟨t,rfl,ht⟩:=h12
  have HL:=Lib.hid ht
  clear ht
  simp only [Act.put,List.setIfInBounds_toArray,List.set_cons_zero,List.set_cons_succ]
  have hs4:=hg4.size
  have hbwN:=hbwX.trans ((Below.refl w.heap.size _).grown hg4 (by omega) (fun i hi => by injection hi with hi; omega))
  have q0:=(cell_stb hg4 (i:=0) (show wA.heap.size < w2.heap.size by omega) hzX).trans e0
  have q1:=(cell_stb hg4 (i:=1) (show wA.heap.size < w2.heap.size by omega) hzX).trans e1
  have q2:=(cell_stb hg4 (i:=2) (show wA.heap.size < w2.heap.size by omega) hzX).trans e2
  have q3:=(cell_stb hg4 (i:=3) (show wA.heap.size < w2.heap.size by omega) hzX).trans e3
  have q4:=(cell_stb hg4 (i:=4) (show wA.heap.size < w2.heap.size by omega) hzX).trans e4
  have oRN:=Own.kept oRX hg4 (.inr (by simp [blk]; omega))
  have r0 : _ = some (Value.string { data:=#[] }):=oRN.cell (b:=w.heap.size) rfl (j:=0) (by omega)
  have rf0:=oRN.frozen (b:=w.heap.size) rfl 0
  have r1 : _ = some (Value.string { data:=#[] }):=oRN.cell (b:=w.heap.size) rfl (j:=1) (by omega)
  have rf1:=oRN.frozen (b:=w.heap.size) rfl 1
  have r2 : _ = some (Value.slice none 0 0):=oRN.cell (b:=w.heap.size) rfl (j:=2) (by omega)
  have rf2:=oRN.frozen (b:=w.heap.size) rfl 2
  have r3 : _ = some (Value.slice none 0 0):=oRN.cell (b:=w.heap.size) rfl (j:=3) (by omega)
  have rf3:=oRN.frozen (b:=w.heap.size) rfl 3
  have r4 : _ = some (Value.int .i64 0):=oRN.cell (b:=w.heap.size) rfl (j:=4) (by omega)
  have rf4:=oRN.frozen (b:=w.heap.size) rfl 4
  have G1:=Own.more (base':=w.heap.size) (own_setB (own_setB (own_setB (own_setB (own_setB (keptB oIX hg4 (by omega)) w.heap.size 0 (Value.string who.1) (by omega)) w.heap.size 1 (Value.string who.2) (by omega)) w.heap.size 2 (Value.slice I is.length ci) (by omega)) w.heap.size 3 (Value.slice F fs.length cf) (by omega)) w.heap.size 4 (Value.int .i64 nx) (by omega)) (by omega)
  have G2:=Own.more (base':=w.heap.size) (own_setB (own_setB (own_setB (own_setB (own_setB (keptB oFX hg4 (by omega)) w.heap.size 0 (Value.string who.1) (by omega)) w.heap.size 1 (Value.string who.2) (by omega)) w.heap.size 2 (Value.slice I is.length ci) (by omega)) w.heap.size 3 (Value.slice F fs.length cf) (by omega)) w.heap.size 4 (Value.int .i64 nx) (by omega)) (by omega)
  have K:=(((((hbwN.setCell (p:=⟨w.heap.size,0,none⟩) (Nat.le_refl _) (Value.string who.1)).setCell (p:=⟨w.heap.size,1,none⟩) (Nat.le_refl _) (Value.string who.2)).setCell (p:=⟨w.heap.size,2,none⟩) (Nat.le_refl _) (Value.slice I is.length ci)).setCell (p:=⟨w.heap.size,3,none⟩) (Nat.le_refl _) (Value.slice F fs.length cf)).setCell (p:=⟨w.heap.size,4,none⟩) (Nat.le_refl _) (Value.int .i64 nx))
  clear oRN
  go_wp2_with fail
  exact bodyPost_ret (v:=.tuple #[.agg #[.string who.1,.string who.2,.slice I is.length ci,.slice F fs.length cf,.int .i64 nx],.string t]) (by simp [results,Tryz.results14,go_sem,r0,r1,r2,r3,r4]) rfl ⟨who,I,ci,is,F,cf,fs,nx,t,rfl,hw,HI.out,HF.out,hn,HL.out,G1,G2,K⟩
end Go.Proofs.YtfnmlffpnmmcdaaGreatDoor
namespace Go.Proofs.YtfnmlffpnmmcdaaGreatDoor
set_option maxRecDepth 100000
open Go.RowKit
end Go.Proofs.YtfnmlffpnmmcdaaGreatDoor
namespace Go.Proofs.YtfnmlffpnmmcdaaGreatDoor
set_option maxRecDepth 100000
open Go.RowKit
theorem blR_fd2 {b : ElBr} {line : ByteArray} : fdB (blR b line).1.2.1 = true ∧ fvB (blR b line).1.2.2.1 = true:=by
 unfold blR
 split
 ·next h => exact ⟨(brv_of (blOf_valid h)).2.1,(brv_of (blOf_valid h)).2.2.1⟩
 ·exact ⟨fd_mk (by simp) (fun x hx => by cases hx) List.Pairwise.nil,fv_nil⟩
set_option maxHeartbeats 1600000 in
theorem sameBridge_self (who : ElHandle) (I : Option Addr) (ci : Nat) (is : List ElItem) (F : Option Addr) (cf : Nat) (fs : List ElHandle) (nx : Int) (I2 F2 : Option Addr) (ci2 cf2 : Nat) (w : World) (B : Nat) (hI : RdE 4 encItem w B I is) (hF : RdE 2 encHandle w B F fs) (hB : B ≤ w.heap.size) (hI2 : RdE 4 encItem w B I2 is) (hF2 : RdE 2 encHandle w B F2 fs) (hl : is.length ≤ 140737488351232) (hlf : fs.length ≤ 140737488351232) :
    Calls Tryz.prog 15 #[.agg #[Value.string who.1,Value.string who.2,Value.slice I is.length ci,Value.slice F fs.length cf,Value.int .i64 nx],.agg #[Value.string who.1,Value.string who.2,Value.slice I2 is.length ci2,Value.slice F2 fs.length cf2,Value.int .i64 nx]] w fun e w' => e = .returned (.bool true) ∧ Below w.heap.size w w':=by
 have hbA : Below w.heap.size w ((w.alloc (.cells #[Value.string who.1,Value.string who.2,Value.slice I is.length ci,Value.slice F fs.length cf,Value.int .i64 nx] 33)).alloc (.cells #[Value.string who.1,Value.string who.2,Value.slice I2 is.length ci2,Value.slice F2 fs.length cf2,Value.int .i64 nx] 33)):=((Below.refl _ _).alloc (Nat.le_refl _) _).alloc (by simp) _
 have hzA : w.heap.size + 1 < ((w.alloc (.cells #[Value.string who.1,Value.string who.2,Value.slice I is.length ci,Value.slice F fs.length cf,Value.int .i64 nx] 33)).alloc (.cells #[Value.string who.1,Value.string who.2,Value.slice I2 is.length ci2,Value.slice F2 fs.length cf2,Value.int .i64 nx] 33)).heap.size:=by simp
 have oA : Own ((w.alloc (.cells #[Value.string who.1,Value.string who.2,Value.slice I is.length ci,Value.slice F fs.length cf,Value.int .i64 nx] 33)).alloc (.cells #[Value.string who.1,Value.string who.2,Value.slice I2 is.length ci2,Value.slice F2 fs.length cf2,Value.int .i64 nx] 33)) w.heap.size 33 5 (some ⟨w.heap.size,0,none⟩) 1 1 (bxC who I is.length ci F fs.length cf nx):=Own.below (Own.lit w 33 5 1 #[Value.string who.1,Value.string who.2,Value.slice I is.length ci,Value.slice F fs.length cf,Value.int .i64 nx] (bxC who I is.length ci F fs.length cf nx) (by simp only [maxLen]; omega) rfl) ((Below.refl _ _).alloc (Nat.le_refl _) _)
 have oB : Own ((w.alloc (.cells #[Value.string who.1,Value.string who.2,Value.slice I is.length ci,Value.slice F fs.length cf,Value.int .i64 nx] 33)).alloc (.cells #[Value.string who.1,Value.string who.2,Value.slice I2 is.length ci2,Value.slice F2 fs.length cf2,Value.int .i64 nx] 33)) (w.heap.size + 1) 33 5 (some ⟨w.heap.size + 1,0,none⟩) 1 1 (bxC who I2 is.length ci2 F2 fs.length cf2 nx):=by
  have:=Own.lit (w.alloc (.cells #[Value.string who.1,Value.string who.2,Value.slice I is.length ci,Value.slice F fs.length cf,Value.int .i64 nx] 33)) 33 5 1 #[Value.string who.1,Value.string who.2,Value.slice I2 is.length ci2,Value.slice F2 fs.length cf2,Value.int .i64 nx] (bxC who I2 is.length ci2 F2 fs.length cf2 nx) (by simp only [maxLen]; omega) rfl
  rw [show (w.alloc (.cells #[Value.string who.1,Value.string who.2,Value.slice I is.length ci,Value.slice F fs.length cf,Value.int .i64 nx] 33)).heap.size = w.heap.size + 1 by simp] at this
  exact this
 have a0:=(show _ = some (Value.string who.1) from oA.cell rfl (j:=0) (by omega))
 have a1:=(show _ = some (Value.string who.2) from oA.cell rfl (j:=1) (by omega))
 have a2:=(show _ = some (Value.slice I is.length ci) from oA.cell rfl (j:=2) (by omega))
 have a3:=(show _ = some (Value.slice F fs.length cf) from oA.cell rfl (j:=3) (by omega))
 have a4:=(show _ = some (Value.int .i64 nx) from oA.cell rfl (j:=4) (by omega))
 have y0:=(show _ = some (Value.string who.1) from oB.cell rfl (j:=0) (by omega))
 have y1:=(show _ = some (Value.string who.2) from oB.cell rfl (j:=1) (by omega))
 have y2:=(show _ = some (Value.slice I2 is.length ci2) from oB.cell rfl (j:=2) (by omega))
 have y3:=(show _ = some (Value.slice F2 fs.length cf2) from oB.cell rfl (j:=3) (by omega))
 have y4:=(show _ = some (Value.int .i64 nx) from oB.cell rfl (j:=4) (by omega))
 have e1:=eqEl_true (α:=ElHandle) (x:=who) rfl
 have heq:=fun W => eql_Handle who.1 who.2 who.1 who.2 W
 rw [show eqEl (α:=ElHandle) (who.1,who.2) (who.1,who.2) = true from e1] at heq
 have hgd:=guard_Handle
 have hnn : (nx == nx) = true:=by simp
 go_enter Tryz.func15,Tryz.ntmps15
 go_wp2_with fail
 generalize ((w.alloc (.cells #[Value.string who.1,Value.string who.2,Value.slice I is.length ci,Value.slice F fs.length cf,Value.int .i64 nx] 33)).alloc (.cells #[Value.string who.1,Value.string who.2,Value.slice I2 is.length ci2,Value.slice F2 fs.length cf2,Value.int .i64 nx] 33)) = wA at *
 refine (sameFeed_any I I2 ci ci2 B is is wA (hI.below (hbA.mono hB)) (hI2.below (hbA.mono hB)) (Nat.le_trans hB hbA.size) hl hl).mono ?_
 rintro e w1 ⟨rfl,b1⟩
 rw [sameB_self is]
 have k1:=hbA.trans (b1.mono hbA.size)
 have oA1:=Own.below oA b1
 have oB1:=Own.below oB b1
 clear a0 a1 a2 a3 a4 y0 y1 y2 y3 y4
 have a0:=(show _ = some (Value.string who.1) from oA1.cell rfl (j:=0) (by omega))
 have a1:=(show _ = some (Value.string who.2) from oA1.cell rfl (j:=1) (by omega))
 have a2:=(show _ = some (Value.slice I is.length ci) from oA1.cell rfl (j:=2) (by omega))
 have a3:=(show _ = some (Value.slice F fs.length cf) from oA1.cell rfl (j:=3) (by omega))
 have a4:=(show _ = some (Value.int .i64 nx) from oA1.cell rfl (j:=4) (by omega))
 have y0:=(show _ = some (Value.string who.1) from oB1.cell rfl (j:=0) (by omega))
 have y1:=(show _ = some (Value.string who.2) from oB1.cell rfl (j:=1) (by omega))
 have y2:=(show _ = some (Value.slice I2 is.length ci2) from oB1.cell rfl (j:=2) (by omega))
 have y3:=(show _ = some (Value.slice F2 fs.length cf2) from oB1.cell rfl (j:=3) (by omega))
 have y4:=(show _ = some (Value.int .i64 nx) from oB1.cell rfl (j:=4) (by omega))
 go_wp2_with fail
 refine (sameHandles_any F F2 cf cf2 B fs fs w1 (hF.below (k1.mono hB)) (hF2.below (k1.mono hB)) (Nat.le_trans hB k1.size) hlf hlf).mono ?_
 rintro e w2 ⟨rfl,b2⟩
 rw [sameB_self fs]
 go_wp2_with fail
 go_ret
 exact ⟨rfl,k1.trans (b2.mono k1.size)⟩
end Go.Proofs.YtfnmlffpnmmcdaaGreatDoor
namespace Go.Proofs.YtfnmlffpnmmcdaaGreatDoor
set_option maxRecDepth 100000
def spL (s : ByteArray) : List ByteArray:=Lib.splitB sp 0 (Lib.countB s sp) s
theorem spL_len (s : ByteArray) : (spL s).length = Lib.countB s sp + 1:=Lib.splitB_all sp (by decide) 0 _ s rfl
def NoSp (s : ByteArray) : Prop:=(32 : UInt8) ∉ s.data.toList
theorem NoSp.of_bb {s : ByteArray} (h : ∀ k,k < s.size → bb s k ≠ 32) : NoSp s:=fun hm => by
 obtain ⟨k,hk⟩:=List.mem_iff_getElem?.1 hm
 obtain ⟨h1,h2⟩:=toList_get.1 hk
 exact h k h1 h2
theorem NoSp.app {a b : ByteArray} (h1 : NoSp a) (h2 : NoSp b) : NoSp (a ++ b):=by
 unfold NoSp at *
 rw [ByteArray.data_append,Array.toList_append,List.mem_append]
 exact fun h => h.elim h1 h2
theorem NoSp.word {s : ByteArray} (h : wordB s = true) : NoSp s:=NoSp.of_bb fun k hk => by
 have:=(Word.of h).2.2.2.2 k hk
 unfold wok at this
 omega
theorem NoSp.handle {h : ElHandle} (hv : hvB h = true) : NoSp (htOf h):=by
 rw [htOf_yes hv]
 unfold hvB at hv
 rw [Bool.and_eq_true] at hv
 have h64 : NoSp { data:=#[64] }:=by unfold NoSp; decide
 exact ((h64.app (NoSp.word hv.1)).app h64).app (NoSp.word hv.2)
theorem NoSp.mark (n : Int) : NoSp (mkOf n):=by
 have hd : ∀ d,d < 36 → NoSp (dig36 d):=by unfold NoSp; decide +kernel
 have ht : ∀ m c : Nat,m < c → NoSp (mkT m):=fun m c => by
  induction c generalizing m with
  | zero => intro h; omega
  | succ c ih =>
   intro h
   by_cases h2 : m < 36
   ·rw [mkT_lt h2]; exact hd m h2
   ·unfold mkT
    rw [mkP_ge h2]
    exact (ih (m / 36) (by omega)).app (hd _ (Nat.mod_lt _ (by omega)))
 unfold mkOf
 split
 ·exact ht _ _ (Nat.lt_succ_self _)
 ·unfold NoSp; decide
theorem NoSp.kind (k : Nat) : NoSp (kwOf k):=by
 unfold kwOf NoSp
 split <;> decide
theorem index_hit : ∀ (l r : List UInt8),(32 : UInt8) ∉ l → Lib.index (l ++ 32 :: r) [32] = l.length
 | [],r,_ => by rw [List.nil_append,Lib.index]; simp [List.isPrefixOf]
 | b :: l,r,h => by
  have hb : (32 : UInt8) ≠ b:=fun e => h (by simp [e])
  have hp : ([32] : List UInt8).isPrefixOf (b :: (l ++ 32 :: r)) = false:=by simp [List.isPrefixOf,hb]
  have ih:=index_hit l r (fun hm => h (List.mem_cons_of_mem _ hm))
  have hix : Lib.index (b :: (l ++ 32 :: r)) [32] = if Lib.index (l ++ 32 :: r) [32] == -1 then -1 else Lib.index (l ++ 32 :: r) [32] + 1:=by rw [Lib.index,hp]; simp
  rw [List.cons_append,hix,ih,if_neg (by rw [beq_iff_eq]; omega),List.length_cons]
  omega
theorem spL_one {s : ByteArray} (h : NoSp s) : spL s = [s]:=by
 have h0 : Lib.countB s sp = 0:=by
  show Lib.count s.data.toList [32] = 0
  rw [Lib.count_one]
  exact List.count_eq_zero.2 h
 unfold spL
 rw [h0]
 rfl
theorem spL_step {p r : ByteArray} (h : NoSp p) : spL (p ++ (sp ++ r)) = p :: spL r:=by
 have hix : Lib.indexB (p ++ (sp ++ r)) sp = (p.size : Int):=by
  show Lib.index (p ++ (sp ++ r)).data.toList [32] = _
  have e : (p ++ (sp ++ r)).data.toList = p.data.toList ++ 32 :: r.data.toList:=by simp [ByteArray.data_append,sp]
  rw [e,index_hit _ _ h]
  simp
 have e2 : (p ++ (sp ++ r)).extract (p.size + sp.size) (p ++ (sp ++ r)).size = r:=by
  rw [← app_assoc]
  exact ext_right (by rw [ByteArray.size_append])
 unfold spL
 rw [Lib.countB_hit _ _ _ (by decide) hix,Nat.add_comm 1,Lib.splitB_hit _ _ _ _ _ hix,e2,Nat.add_zero,ext_left rfl]
def kdOf (w : ByteArray) : Int:=if w = kwOf 0 then 0 else if w = kwOf 1 then 1 else if w = kwOf 2 then 2 else if w = kwOf 3 then 3 else if w = kwOf 4 then 4 else if w = kwOf 5 then 5 else -1
theorem kdOf_hit {w : ByteArray} {k : Nat} (hk : k < 6) (hb : ∀ j,j < k → kwOf j ≠ w) (h : kwOf k = w) : kdOf w = (k : Int):=by
 subst h
 match k,hk with
 | 0,_ => decide +kernel
 | 1,_ => decide +kernel
 | 2,_ => decide +kernel
 | 3,_ => decide +kernel
 | 4,_ => decide +kernel
 | 5,_ => decide +kernel
theorem kdOf_miss {w : ByteArray} (h : ∀ j,j < 6 → kwOf j ≠ w) : kdOf w = -1:=by
 unfold kdOf
 rw [if_neg (fun e => h 0 (by omega) e.symm),if_neg (fun e => h 1 (by omega) e.symm),if_neg (fun e => h 2 (by omega) e.symm),if_neg (fun e => h 3 (by omega) e.symm),if_neg (fun e => h 4 (by omega) e.symm),if_neg (fun e => h 5 (by omega) e.symm)]
theorem kdOf_kw {k : Nat} (hk : k < 6) : kdOf (kwOf k) = (k : Int):=by
 match k,hk with
 | 0,_ => decide +kernel
 | 1,_ => decide +kernel
 | 2,_ => decide +kernel
 | 3,_ => decide +kernel
 | 4,_ => decide +kernel
 | 5,_ => decide +kernel
theorem kdOf_at {w : ByteArray} (h : bb w 0 = 64) : kdOf w = -1:=kdOf_miss fun j hj e => by
 subst e
 revert h
 match j,hj with
 | 0,_ => decide +kernel
 | 1,_ => decide +kernel
 | 2,_ => decide +kernel
 | 3,_ => decide +kernel
 | 4,_ => decide +kernel
 | 5,_ => decide +kernel
def rmV (s : ByteArray) : Nat → Nat
 | 0 => 0
 | k + 1 => rmV s k * 36 + (dg (bb s k)).toNat
theorem rmV_lt (s : ByteArray) : ∀ k,rmV s k < 36 ^ k
 | 0 => by rw [rmV]; decide
 | k + 1 => by
  have h:=rmV_lt s k
  have:=dg_hi (bb s k)
  rw [rmV,Nat.pow_succ]
  omega
theorem rmV_six (s : ByteArray) {k : Nat} (h : k ≤ 6) : rmV s k < 2176782336:=Nat.lt_of_lt_of_le (rmV_lt s k) (Nat.pow_le_pow_right (n:=36) (by omega) h)
def RmG (s : ByteArray) : Prop:=1 ≤ s.size ∧ s.size ≤ 6 ∧ (1 < s.size → bb s 0 ≠ 48) ∧ wokTo s s.size ∧ rmV s s.size ≤ 1000000000
instance (s : ByteArray) : Decidable (RmG s):=inferInstanceAs (Decidable (_ ∧ _))
def rmOf (s : ByteArray) : Int:=if RmG s then (rmV s s.size : Int) else -1
theorem rmOf_no {s : ByteArray} (h : ¬ RmG s) : rmOf s = -1:=if_neg h
theorem rmOf_yes {s : ByteArray} (h : RmG s) : rmOf s = (rmV s s.size : Int):=if_pos h
theorem rmV_left {a b : ByteArray} : ∀ k,k ≤ a.size → rmV (a ++ b) k = rmV a k
 | 0,_ => rfl
 | k + 1,h => by rw [rmV,rmV,rmV_left k (by omega),bb_left (by omega)]
theorem dig_facts : ∀ d,d < 36 → (dig36 d).size = 1 ∧ (48 ≤ bb (dig36 d) 0 ∧ bb (dig36 d) 0 ≤ 57 ∨ 97 ≤ bb (dig36 d) 0 ∧ bb (dig36 d) 0 ≤ 122) ∧ dg (bb (dig36 d) 0) = (d : Int) ∧ (d ≠ 0 → bb (dig36 d) 0 ≠ 48):=by decide +kernel
theorem mkT_facts : ∀ c n : Nat,n < c → 1 ≤ (mkT n).size ∧ wokTo (mkT n) (mkT n).size ∧ rmV (mkT n) (mkT n).size = n ∧ (n ≠ 0 → bb (mkT n) 0 ≠ 48) ∧ (n < 36 → (mkT n).size = 1):=fun c => by
 induction c with
 | zero => intro n h; omega
 | succ c ih =>
  intro n h
  by_cases h2 : n < 36
  ·rw [mkT_lt h2]
   obtain ⟨d1,d2,d3,d4⟩:=dig_facts n h2
   rw [d1]
   refine ⟨Nat.le_refl _,fun j hj => ?_,?_,d4,fun _ => rfl⟩
   ·obtain rfl : j = 0:=by omega
    exact d2
   ·show 0 * 36 + (dg (bb (dig36 n) 0)).toNat = n
    rw [d3]; omega
  ·obtain ⟨i1,i2,i3,i4,_⟩:=ih (n / 36) (by omega)
   obtain ⟨d1,d2,d3,_⟩:=dig_facts (n % 36) (Nat.mod_lt _ (by omega))
   have e : mkT n = mkT (n / 36) ++ dig36 (n % 36):=by
    rw [show mkT n = mkP n ++ dig36 (n % 36) from rfl,mkP_ge h2]
   have hb : bb (mkT (n / 36) ++ dig36 (n % 36)) (mkT (n / 36)).size = bb (dig36 (n % 36)) 0:=bb_right _ _ 0
   rw [e,ByteArray.size_append,d1]
   refine ⟨by omega,fun j hj => ?_,?_,fun _ => ?_,fun hh => absurd hh h2⟩
   ·rcases Nat.lt_or_ge j (mkT (n / 36)).size with q | q
    ·rw [bb_left q]; exact i2 j q
    ·obtain rfl : j = (mkT (n / 36)).size:=by omega
     rw [hb]; exact d2
   ·rw [rmV,rmV_left _ (Nat.le_refl _),i3,hb,d3]; omega
   ·rw [bb_left (by omega)]; exact i4 (by omega)
theorem rm_mk {n : Int} (h0 : 0 ≤ n) (h1 : n ≤ 1000000000) : rmOf (mkOf n) = n:=by
 obtain ⟨m,rfl⟩:=Int.eq_ofNat_of_zero_le h0
 rw [mkOf_yes (by omega)]
 obtain ⟨f1,f2,f3,f4,f5⟩:=mkT_facts (m + 1) m (by omega)
 rw [rmOf_yes ⟨f1,mkT_six (by omega),fun hs => f4 (fun e => by have:=f5 (by omega); omega),f2,by rw [f3]; omega⟩,f3]
theorem rh_ht {h : ElHandle} (hv : hvB h = true) : rhOk (htOf h) = true ∧ rhOf (htOf h) = h:=by
 have hv2:=hv
 unfold hvB at hv2
 rw [Bool.and_eq_true] at hv2
 have w1:=Word.of hv2.1
 obtain ⟨a,b⟩:=h
 have e : htOf (a,b) = (({ data:=#[64] } : ByteArray) ++ a) ++ ({ data:=#[64] } ++ b):=by rw [htOf_yes hv,app_assoc (_ ++ a)]
 have e1 : (({ data:=#[64] } : ByteArray) ++ a).size = 1 + a.size:=by rw [ByteArray.size_append]; rfl
 have e2 : (({ data:=#[64] } : ByteArray) ++ b).size = 1 + b.size:=by rw [ByteArray.size_append]; rfl
 have ez : (htOf (a,b)).size = 2 + a.size + b.size:=by rw [e,ByteArray.size_append,e1,e2]; omega
 have hk : rhK (htOf (a,b)) = 1 + a.size:=by
  refine fb_eq (by omega) (by omega) (fun j h1 h2 => ?_) (fun _ => ?_)
  ·obtain ⟨i,rfl⟩ : ∃ i,j = 1 + i:=⟨j - 1,by omega⟩
   rw [e,bb_left (by omega)]
   have hr:=bb_right ({ data:=#[64] } : ByteArray) a i
   have hr : bb (({ data:=#[64] } : ByteArray) ++ a) (1 + i) = bb a i:=hr
   rw [hr]
   have:=w1.2.2.2.2 i (by show i < a.size; omega)
   unfold wok at this
   have : 48 ≤ bb a i ∧ bb a i ≤ 57 ∨ 97 ≤ bb a i ∧ bb a i ≤ 122:=this
   omega
  ·have hr:=bb_right (({ data:=#[64] } : ByteArray) ++ a) (({ data:=#[64] } : ByteArray) ++ b) 0
   rw [e1,← e,Nat.add_zero] at hr
   rw [hr,bb_left (by decide)]
   rfl
 have hh : rhH (htOf (a,b)) = (a,b):=by
  unfold rhH
  rw [hk]
  refine Prod.ext ?_ ?_
  ·show (htOf (a,b)).extract 1 (1 + a.size) = a
   have hx : (htOf (a,b)).extract 1 (1 + a.size) = ((htOf (a,b)).extract 0 (1 + a.size)).extract 1 (1 + a.size):=by
    refine ba_bb (by rw [size_ext (by omega),size_ext (by rw [size_ext (by omega)]; omega)]) fun k hk => ?_
    rw [size_ext (by omega)] at hk
    rw [bb_extract (by omega) (by omega),bb_extract (by rw [size_ext (by omega)]; omega) (by omega),bb_extract (by omega) (by omega),Nat.zero_add]
   rw [hx,e,ext_left e1,← e1]
   exact ext_right rfl
  ·show (htOf (a,b)).extract (1 + a.size + 1) (htOf (a,b)).size = b
   rw [show htOf (a,b) = ((({ data:=#[64] } : ByteArray) ++ a) ++ { data:=#[64] }) ++ b from htOf_yes hv]
   exact ext_right (by rw [ByteArray.size_append,e1]; rfl)
 have ok : rhOk (htOf (a,b)) = true:=rhOk_yes (ht_first hv) (by rw [hk]; omega) (by rw [hh]; exact hv)
 exact ⟨ok,by rw [rhOf_yes ok,hh]⟩
def raK (s : ByteArray) : Int:=kdOf (gt (spL s) 0)
def raN (s : ByteArray) : Int:=rmOf (gt (spL s) 1)
def raW (s : ByteArray) : ElHandle:=rhOf (gt (spL s) 2)
def raT (s : ByteArray) : ByteArray:=gt (spL s) 3
def raOk (s : ByteArray) : Bool:=decide ((spL s).length = 4) && acB (raK s) (raN s) (raW s) (raT s)
def raOf (s : ByteArray) : ElAct:=if raOk s = true then (raK s,raN s,(raW s).1,(raW s).2,raT s) else (0,0,{ data:=#[] },{ data:=#[] },{ data:=#[] })
theorem raOk_len {s : ByteArray} (h : (spL s).length ≠ 4) : raOk s = false:=by unfold raOk; rw [decide_eq_false h]; rfl
theorem raOk_four {s : ByteArray} (h : (spL s).length = 4) : raOk s = acB (raK s) (raN s) (raW s) (raT s):=by unfold raOk; rw [decide_eq_true h]; rfl
theorem raOf_no {s : ByteArray} (h : raOk s = false) : raOf s = (0,0,{ data:=#[] },{ data:=#[] },{ data:=#[] }):=if_neg (by rw [h]; simp)
theorem raOf_yes {s : ByteArray} (h : raOk s = true) : raOf s = (raK s,raN s,(raW s).1,(raW s).2,raT s):=if_pos h
theorem ra_one {s : ByteArray} (h : NoSp s) : raOk s = false:=raOk_len (by rw [spL_one h,List.length_singleton]; decide)
theorem ra_ac {c : Nat} {num : Int} {who : ElHandle} {what : ByteArray} (hc : c < 6) (h : acB (c : Int) num who what = true) :
    raOk (acOf c num who what) = true ∧ raOf (acOf c num who what) = ((c : Int),num,who.1,who.2,what):=by
 obtain ⟨_,⟨n0,n1⟩,hw,ht⟩:=acB_of h
 have e : spL (acOf c num who what) = [kwOf c,mkOf num,htOf who,what]:=by
  have ea : acOf c num who what = kwOf c ++ (sp ++ (mkOf num ++ (sp ++ (htOf who ++ (sp ++ what))))):=by
   show kwOf c ++ sp ++ mkOf num ++ sp ++ htOf who ++ sp ++ what = _
   rw [app_assoc,app_assoc,app_assoc,app_assoc,app_assoc]
  rw [ea,spL_step (NoSp.kind c),spL_step (NoSp.mark num),spL_step (NoSp.handle hw),spL_one (NoSp.word ht)]
 have k0 : raK (acOf c num who what) = (c : Int):=by unfold raK; rw [e]; exact kdOf_kw hc
 have k1 : raN (acOf c num who what) = num:=by unfold raN; rw [e]; exact rm_mk n0 n1
 have k2 : raW (acOf c num who what) = who:=by unfold raW; rw [e]; exact (rh_ht hw).2
 have k3 : raT (acOf c num who what) = what:=by unfold raT; rw [e]; rfl
 have ok : raOk (acOf c num who what) = true:=by rw [raOk_four (by rw [e]; rfl),k0,k1,k2,k3]; exact h
 exact ⟨ok,by rw [raOf_yes ok,k0,k1,k2,k3]⟩
theorem ftTo_front (fs : List ElHandle) : ∀ k,ftTo fs (k + 1) = htOf (gt fs 0) ∨ ∃ r,ftTo fs (k + 1) = htOf (gt fs 0) ++ (sp ++ r)
 | 0 => .inl (by rw [ftTo,if_neg (by omega)]; exact empty_app _)
 | k + 1 => by
  rcases ftTo_front fs k with h | ⟨r,h⟩
  ·exact .inr ⟨htOf (gt fs (k + 1)),by rw [ftTo,if_pos (by omega),h,app_assoc]⟩
  ·exact .inr ⟨r ++ sp ++ htOf (gt fs (k + 1)),by rw [ftTo,if_pos (by omega),h]; simp only [app_assoc]⟩
theorem ra_fans {fs : List ElHandle} (hv : fvB fs = true) : raOk (ftOf fs) = false:=by
 unfold ftOf
 split
 ·exact ra_one (by unfold NoSp; decide)
 ·next h =>
  obtain ⟨k,hk⟩ : ∃ k,fs.length = k + 1:=⟨fs.length - 1,by omega⟩
  have h0 : hvB (gt fs 0) = true:=(Fv.of hv).ok (gt_mem (by omega))
  rw [hk]
  rcases ftTo_front fs k with e | ⟨r,e⟩
  ·rw [e]; exact ra_one (NoSp.handle h0)
  ·rw [e]
   by_cases h4 : (spL (htOf (gt fs 0) ++ (sp ++ r))).length = 4
   ·have hp : raK (htOf (gt fs 0) ++ (sp ++ r)) = -1:=by
       unfold raK
       rw [spL_step (NoSp.handle h0)]
       exact kdOf_at (ht_first h0)
    rw [raOk_four h4,hp]
    exact acB_1 _ _ _ (by decide)
   ·exact raOk_len h4
def Told (b : ElBr) (r : ElBr × ByteArray) : Prop:=r.2.size ≤ 300 ∧ (
 (r.1.2.2.2 = b.2.2.2 ∧ r.1.2.1 = b.2.1 ∧ raOk r.2 = false) ∨
 (r.1.2.2.2 = b.2.2.2 + 1 ∧ raOk r.2 = true ∧ (raOf r.2).2.1 = b.2.2.2 ∧ ((raOf r.2).2.2.1,(raOf r.2).2.2.2.1) = b.1 ∧ r.1.2.2.1 = b.2.2.1))
theorem told_same {b : ElBr} {t : ByteArray} (h : NoSp t) (hz : t.size ≤ 300:=by decide) : Told b (b,t):=⟨hz,.inl ⟨rfl,rfl,ra_one h⟩⟩
theorem no_no : NoSp wNo:=by unfold NoSp; decide
theorem no_ok : NoSp wOk:=by unfold NoSp; decide
theorem no_same : NoSp wSame:=by unfold NoSp; decide
theorem told_tell {b : ElBr} {items : List ElItem} (h : brvB b = true) (hj : fdB items = true) : Told b (tellOf b items):=by
 unfold tellOf
 split
 ·exact told_same no_same
 ·next hp =>
  split
  ·obtain ⟨h1,h2,_,h4⟩:=brv_of h
   obtain ⟨c,key,hc,he,ha⟩:=told_ac h1 h2 hj h4 (by omega)
   obtain ⟨r1,r2⟩:=ra_ac hc ha
   have ea : actOf (gt (tcOf b.1 b.2.2.2 b.2.1 items) 0) = acOf c b.2.2.2 b.1 key:=by rw [he]; rfl
   have hz : (acOf c b.2.2.2 b.1 key).size ≤ 300:=by
    have y0:=kwOf_size c
    have y1:=mkOf_size b.2.2.2
    have y2:=htOf_size b.1
    have y3:=(Word.of (acB_of ha).2.2.2).2.1
    show (kwOf c ++ sp ++ mkOf b.2.2.2 ++ sp ++ htOf b.1 ++ sp ++ key).size ≤ 300
    simp only [ByteArray.size_append]
    have : sp.size = 1:=rfl
    omega
   refine ⟨by show (actOf (gt (tcOf b.1 b.2.2.2 b.2.1 items) 0)).size ≤ 300; rw [ea]; exact hz,.inr ⟨rfl,?_⟩⟩
   show raOk (actOf (gt (tcOf b.1 b.2.2.2 b.2.1 items) 0)) = true ∧ _
   rw [ea,r2]
   exact ⟨r1,rfl,rfl,rfl⟩
  ·exact told_same no_no
theorem told_line {b : ElBr} {line : ByteArray} (h : brvB b = true) : Told b (blOf b line):=by
 obtain ⟨_,h2,h3,_⟩:=brv_of h
 unfold blOf
 split
 ·refine ⟨?_,.inl ⟨rfl,rfl,ra_fans h3⟩⟩
  show (ftOf b.2.2.1).size ≤ 300
  have h10:=(Fv.of h3).1
  have hz:=ftTo_size b.2.2.1 b.2.2.1.length
  unfold ftOf
  split
  ·decide
  ·omega
 ·split
  ·split
   ·unfold putOf
    split
    ·next hr =>
     split
     ·exact told_same no_no
     ·exact told_tell h (mfOf_fd h2 (fd_one (riOf_valid hr)))
    ·exact told_same no_no
   ·split
    ·unfold takeOf
     split
     ·exact told_tell h (goOf_fd h2)
     ·exact told_same no_no
    ·split
     ·unfold folwOf
      split
      ·split
       ·exact ⟨(by decide : wOk.size ≤ 300),.inl ⟨rfl,rfl,ra_one no_ok⟩⟩
       ·exact told_same no_no
      ·exact told_same no_no
     ·split
      ·unfold leavOf
       split
       ·split
        ·exact ⟨(by decide : wOk.size ≤ 300),.inl ⟨rfl,rfl,ra_one no_ok⟩⟩
        ·exact told_same no_no
       ·exact told_same no_no
      ·exact told_same no_no
  ·exact told_same no_no
end Go.Proofs.YtfnmlffpnmmcdaaGreatDoor
namespace Go.Proofs.YtfnmlffpnmmcdaaGreatDoor
set_option maxRecDepth 100000
open Go.RowKit
theorem kwIx_0 (w : World) : (Instr.index 136 (.agg #[Value.string { data:=#[99,114,101,97,116,101] },Value.string { data:=#[117,112,100,97,116,101] },Value.string { data:=#[100,101,108,101,116,101] },Value.string { data:=#[102,111,108,108,111,119] },Value.string { data:=#[97,99,99,101,112,116] },Value.string { data:=#[117,110,100,111] }]) (.int .i64 0)).run Tryz.prog w = .ok (.string { data:=#[99,114,101,97,116,101] }) w:=by kernel_rfl
theorem kwIx_1 (w : World) : (Instr.index 136 (.agg #[Value.string { data:=#[99,114,101,97,116,101] },Value.string { data:=#[117,112,100,97,116,101] },Value.string { data:=#[100,101,108,101,116,101] },Value.string { data:=#[102,111,108,108,111,119] },Value.string { data:=#[97,99,99,101,112,116] },Value.string { data:=#[117,110,100,111] }]) (.int .i64 1)).run Tryz.prog w = .ok (.string { data:=#[117,112,100,97,116,101] }) w:=by kernel_rfl
theorem kwIx_2 (w : World) : (Instr.index 136 (.agg #[Value.string { data:=#[99,114,101,97,116,101] },Value.string { data:=#[117,112,100,97,116,101] },Value.string { data:=#[100,101,108,101,116,101] },Value.string { data:=#[102,111,108,108,111,119] },Value.string { data:=#[97,99,99,101,112,116] },Value.string { data:=#[117,110,100,111] }]) (.int .i64 2)).run Tryz.prog w = .ok (.string { data:=#[100,101,108,101,116,101] }) w:=by kernel_rfl
theorem kwIx_3 (w : World) : (Instr.index 136 (.agg #[Value.string { data:=#[99,114,101,97,116,101] },Value.string { data:=#[117,112,100,97,116,101] },Value.string { data:=#[100,101,108,101,116,101] },Value.string { data:=#[102,111,108,108,111,119] },Value.string { data:=#[97,99,99,101,112,116] },Value.string { data:=#[117,110,100,111] }]) (.int .i64 3)).run Tryz.prog w = .ok (.string { data:=#[102,111,108,108,111,119] }) w:=by kernel_rfl
theorem kwIx_4 (w : World) : (Instr.index 136 (.agg #[Value.string { data:=#[99,114,101,97,116,101] },Value.string { data:=#[117,112,100,97,116,101] },Value.string { data:=#[100,101,108,101,116,101] },Value.string { data:=#[102,111,108,108,111,119] },Value.string { data:=#[97,99,99,101,112,116] },Value.string { data:=#[117,110,100,111] }]) (.int .i64 4)).run Tryz.prog w = .ok (.string { data:=#[97,99,99,101,112,116] }) w:=by kernel_rfl
theorem kwIx_5 (w : World) : (Instr.index 136 (.agg #[Value.string { data:=#[99,114,101,97,116,101] },Value.string { data:=#[117,112,100,97,116,101] },Value.string { data:=#[100,101,108,101,116,101] },Value.string { data:=#[102,111,108,108,111,119] },Value.string { data:=#[97,99,99,101,112,116] },Value.string { data:=#[117,110,100,111] }]) (.int .i64 5)).run Tryz.prog w = .ok (.string { data:=#[117,110,100,111] }) w:=by kernel_rfl
theorem kw_list0 : (kwOf 0).toList = ([99,114,101,97,116,101] : List UInt8):=by rw [ByteArray.toList_eq]; rfl
theorem kw_list1 : (kwOf 1).toList = ([117,112,100,97,116,101] : List UInt8):=by rw [ByteArray.toList_eq]; rfl
theorem kw_list2 : (kwOf 2).toList = ([100,101,108,101,116,101] : List UInt8):=by rw [ByteArray.toList_eq]; rfl
theorem kw_list3 : (kwOf 3).toList = ([102,111,108,108,111,119] : List UInt8):=by rw [ByteArray.toList_eq]; rfl
theorem kw_list4 : (kwOf 4).toList = ([97,99,99,101,112,116] : List UInt8):=by rw [ByteArray.toList_eq]; rfl
theorem kw_list5 : (kwOf 5).toList = ([117,110,100,111] : List UInt8):=by rw [ByteArray.toList_eq]; rfl
set_option maxHeartbeats 1600000 in
theorem kindOf_any (s : ByteArray) (w : World) (hT : KwTab w) : Calls Tryz.prog 71 #[.string s] w fun e w' => e = .returned (.int .i64 (kdOf s)) ∧ Below w.heap.size w w':=by
 have hgl:=hT.lt
 have c0 : w.cell? ⟨0,0,none⟩ = some (Value.string { data:=#[99,114,101,97,116,101] }):=hT 0 (by omega)
 have c1 : w.cell? ⟨0,1,none⟩ = some (Value.string { data:=#[117,112,100,97,116,101] }):=hT 1 (by omega)
 have c2 : w.cell? ⟨0,2,none⟩ = some (Value.string { data:=#[100,101,108,101,116,101] }):=hT 2 (by omega)
 have c3 : w.cell? ⟨0,3,none⟩ = some (Value.string { data:=#[102,111,108,108,111,119] }):=hT 3 (by omega)
 have c4 : w.cell? ⟨0,4,none⟩ = some (Value.string { data:=#[97,99,99,101,112,116] }):=hT 4 (by omega)
 have c5 : w.cell? ⟨0,5,none⟩ = some (Value.string { data:=#[117,110,100,111] }):=hT 5 (by omega)
 have ix0:=kwIx_0
 have ix1:=kwIx_1
 have ix2:=kwIx_2
 have ix3:=kwIx_3
 have ix4:=kwIx_4
 have ix5:=kwIx_5
 clear hT
 by_cases h0 : kwOf 0 = s
 ·have HQ:=Lib.hid (kdOf_hit (w:=s) (k:=0) (by omega) (fun j hj => by omega) h0)
  have d0 : (([99,114,101,97,116,101] : List UInt8) == s.toList) = true:=by rw [beq_iff_eq,← kw_list0,h0]
  clear h0
  go_enter Tryz.func71,Tryz.ntmps71
  go_wp2_with fail
  refine wp_loop_rounds 7 ?_
  rw [rounds_succ]
  go_wp2_with fail
  go_ret
  exact ⟨ret_int HQ.out.symm,(by repeat (first | assumption | exact Below.refl _ _ | refine below_drewN ?_ _ | refine Below.alloc ?_ (by first | omega | (simp; done) | (simp; omega)) _))⟩
 have n0:=h0
 clear h0
 by_cases h1 : kwOf 1 = s
 ·have HQ:=Lib.hid (kdOf_hit (w:=s) (k:=1) (by omega) (fun j hj => by rcases (by omega : j = 0) with rfl <;> assumption) h1)
  have d0 : (([99,114,101,97,116,101] : List UInt8) == s.toList) = false:=by rw [beq_eq_false_iff_ne]; exact fun e => n0 (ba_ext (kw_list0.trans e))
  have d1 : (([117,112,100,97,116,101] : List UInt8) == s.toList) = true:=by rw [beq_iff_eq,← kw_list1,h1]
  clear n0
  clear h1
  go_enter Tryz.func71,Tryz.ntmps71
  go_wp2_with fail
  refine wp_loop_rounds 7 ?_
  rw [rounds_succ]
  go_wp2_with fail
  rw [rounds_succ]
  go_wp2_with fail
  go_ret
  exact ⟨ret_int HQ.out.symm,(by repeat (first | assumption | exact Below.refl _ _ | refine below_drewN ?_ _ | refine Below.alloc ?_ (by first | omega | (simp; done) | (simp; omega)) _))⟩
 have n1:=h1
 clear h1
 by_cases h2 : kwOf 2 = s
 ·have HQ:=Lib.hid (kdOf_hit (w:=s) (k:=2) (by omega) (fun j hj => by rcases (by omega : j = 0 ∨ j = 1) with rfl | rfl <;> assumption) h2)
  have d0 : (([99,114,101,97,116,101] : List UInt8) == s.toList) = false:=by rw [beq_eq_false_iff_ne]; exact fun e => n0 (ba_ext (kw_list0.trans e))
  have d1 : (([117,112,100,97,116,101] : List UInt8) == s.toList) = false:=by rw [beq_eq_false_iff_ne]; exact fun e => n1 (ba_ext (kw_list1.trans e))
  have d2 : (([100,101,108,101,116,101] : List UInt8) == s.toList) = true:=by rw [beq_iff_eq,← kw_list2,h2]
  clear n0
  clear n1
  clear h2
  go_enter Tryz.func71,Tryz.ntmps71
  go_wp2_with fail
  refine wp_loop_rounds 7 ?_
  rw [rounds_succ]
  go_wp2_with fail
  rw [rounds_succ]
  go_wp2_with fail
  rw [rounds_succ]
  go_wp2_with fail
  go_ret
  exact ⟨ret_int HQ.out.symm,(by repeat (first | assumption | exact Below.refl _ _ | refine below_drewN ?_ _ | refine Below.alloc ?_ (by first | omega | (simp; done) | (simp; omega)) _))⟩
 have n2:=h2
 clear h2
 by_cases h3 : kwOf 3 = s
 ·have HQ:=Lib.hid (kdOf_hit (w:=s) (k:=3) (by omega) (fun j hj => by rcases (by omega : j = 0 ∨ j = 1 ∨ j = 2) with rfl | rfl | rfl <;> assumption) h3)
  have d0 : (([99,114,101,97,116,101] : List UInt8) == s.toList) = false:=by rw [beq_eq_false_iff_ne]; exact fun e => n0 (ba_ext (kw_list0.trans e))
  have d1 : (([117,112,100,97,116,101] : List UInt8) == s.toList) = false:=by rw [beq_eq_false_iff_ne]; exact fun e => n1 (ba_ext (kw_list1.trans e))
  have d2 : (([100,101,108,101,116,101] : List UInt8) == s.toList) = false:=by rw [beq_eq_false_iff_ne]; exact fun e => n2 (ba_ext (kw_list2.trans e))
  have d3 : (([102,111,108,108,111,119] : List UInt8) == s.toList) = true:=by rw [beq_iff_eq,← kw_list3,h3]
  clear n0
  clear n1
  clear n2
  clear h3
  go_enter Tryz.func71,Tryz.ntmps71
  go_wp2_with fail
  refine wp_loop_rounds 7 ?_
  rw [rounds_succ]
  go_wp2_with fail
  rw [rounds_succ]
  go_wp2_with fail
  rw [rounds_succ]
  go_wp2_with fail
  rw [rounds_succ]
  go_wp2_with fail
  go_ret
  exact ⟨ret_int HQ.out.symm,(by repeat (first | assumption | exact Below.refl _ _ | refine below_drewN ?_ _ | refine Below.alloc ?_ (by first | omega | (simp; done) | (simp; omega)) _))⟩
 have n3:=h3
 clear h3
 by_cases h4 : kwOf 4 = s
 ·have HQ:=Lib.hid (kdOf_hit (w:=s) (k:=4) (by omega) (fun j hj => by rcases (by omega : j = 0 ∨ j = 1 ∨ j = 2 ∨ j = 3) with rfl | rfl | rfl | rfl <;> assumption) h4)
  have d0 : (([99,114,101,97,116,101] : List UInt8) == s.toList) = false:=by rw [beq_eq_false_iff_ne]; exact fun e => n0 (ba_ext (kw_list0.trans e))
  have d1 : (([117,112,100,97,116,101] : List UInt8) == s.toList) = false:=by rw [beq_eq_false_iff_ne]; exact fun e => n1 (ba_ext (kw_list1.trans e))
  have d2 : (([100,101,108,101,116,101] : List UInt8) == s.toList) = false:=by rw [beq_eq_false_iff_ne]; exact fun e => n2 (ba_ext (kw_list2.trans e))
  have d3 : (([102,111,108,108,111,119] : List UInt8) == s.toList) = false:=by rw [beq_eq_false_iff_ne]; exact fun e => n3 (ba_ext (kw_list3.trans e))
  have d4 : (([97,99,99,101,112,116] : List UInt8) == s.toList) = true:=by rw [beq_iff_eq,← kw_list4,h4]
  clear n0
  clear n1
  clear n2
  clear n3
  clear h4
  go_enter Tryz.func71,Tryz.ntmps71
  go_wp2_with fail
  refine wp_loop_rounds 7 ?_
  rw [rounds_succ]
  go_wp2_with fail
  rw [rounds_succ]
  go_wp2_with fail
  rw [rounds_succ]
  go_wp2_with fail
  rw [rounds_succ]
  go_wp2_with fail
  rw [rounds_succ]
  go_wp2_with fail
  go_ret
  exact ⟨ret_int HQ.out.symm,(by repeat (first | assumption | exact Below.refl _ _ | refine below_drewN ?_ _ | refine Below.alloc ?_ (by first | omega | (simp; done) | (simp; omega)) _))⟩
 have n4:=h4
 clear h4
 by_cases h5 : kwOf 5 = s
 ·have HQ:=Lib.hid (kdOf_hit (w:=s) (k:=5) (by omega) (fun j hj => by rcases (by omega : j = 0 ∨ j = 1 ∨ j = 2 ∨ j = 3 ∨ j = 4) with rfl | rfl | rfl | rfl | rfl <;> assumption) h5)
  have d0 : (([99,114,101,97,116,101] : List UInt8) == s.toList) = false:=by rw [beq_eq_false_iff_ne]; exact fun e => n0 (ba_ext (kw_list0.trans e))
  have d1 : (([117,112,100,97,116,101] : List UInt8) == s.toList) = false:=by rw [beq_eq_false_iff_ne]; exact fun e => n1 (ba_ext (kw_list1.trans e))
  have d2 : (([100,101,108,101,116,101] : List UInt8) == s.toList) = false:=by rw [beq_eq_false_iff_ne]; exact fun e => n2 (ba_ext (kw_list2.trans e))
  have d3 : (([102,111,108,108,111,119] : List UInt8) == s.toList) = false:=by rw [beq_eq_false_iff_ne]; exact fun e => n3 (ba_ext (kw_list3.trans e))
  have d4 : (([97,99,99,101,112,116] : List UInt8) == s.toList) = false:=by rw [beq_eq_false_iff_ne]; exact fun e => n4 (ba_ext (kw_list4.trans e))
  have d5 : (([117,110,100,111] : List UInt8) == s.toList) = true:=by rw [beq_iff_eq,← kw_list5,h5]
  clear n0
  clear n1
  clear n2
  clear n3
  clear n4
  clear h5
  go_enter Tryz.func71,Tryz.ntmps71
  go_wp2_with fail
  refine wp_loop_rounds 7 ?_
  rw [rounds_succ]
  go_wp2_with fail
  rw [rounds_succ]
  go_wp2_with fail
  rw [rounds_succ]
  go_wp2_with fail
  rw [rounds_succ]
  go_wp2_with fail
  rw [rounds_succ]
  go_wp2_with fail
  rw [rounds_succ]
  go_wp2_with fail
  go_ret
  exact ⟨ret_int HQ.out.symm,(by repeat (first | assumption | exact Below.refl _ _ | refine below_drewN ?_ _ | refine Below.alloc ?_ (by first | omega | (simp; done) | (simp; omega)) _))⟩
 have n5:=h5
 clear h5
 have HQ:=Lib.hid (kdOf_miss (w:=s) (fun j hj => by rcases (by omega : j = 0 ∨ j = 1 ∨ j = 2 ∨ j = 3 ∨ j = 4 ∨ j = 5) with rfl | rfl | rfl | rfl | rfl | rfl <;> assumption))
 have d0 : (([99,114,101,97,116,101] : List UInt8) == s.toList) = false:=by rw [beq_eq_false_iff_ne]; exact fun e => n0 (ba_ext (kw_list0.trans e))
 have d1 : (([117,112,100,97,116,101] : List UInt8) == s.toList) = false:=by rw [beq_eq_false_iff_ne]; exact fun e => n1 (ba_ext (kw_list1.trans e))
 have d2 : (([100,101,108,101,116,101] : List UInt8) == s.toList) = false:=by rw [beq_eq_false_iff_ne]; exact fun e => n2 (ba_ext (kw_list2.trans e))
 have d3 : (([102,111,108,108,111,119] : List UInt8) == s.toList) = false:=by rw [beq_eq_false_iff_ne]; exact fun e => n3 (ba_ext (kw_list3.trans e))
 have d4 : (([97,99,99,101,112,116] : List UInt8) == s.toList) = false:=by rw [beq_eq_false_iff_ne]; exact fun e => n4 (ba_ext (kw_list4.trans e))
 have d5 : (([117,110,100,111] : List UInt8) == s.toList) = false:=by rw [beq_eq_false_iff_ne]; exact fun e => n5 (ba_ext (kw_list5.trans e))
 clear n0
 clear n1
 clear n2
 clear n3
 clear n4
 clear n5
 go_enter Tryz.func71,Tryz.ntmps71
 go_wp2_with fail
 refine wp_loop_rounds 7 ?_
 rw [rounds_succ]
 go_wp2_with fail
 rw [rounds_succ]
 go_wp2_with fail
 rw [rounds_succ]
 go_wp2_with fail
 rw [rounds_succ]
 go_wp2_with fail
 rw [rounds_succ]
 go_wp2_with fail
 rw [rounds_succ]
 go_wp2_with fail
 rw [rounds_succ]
 go_wp2_with fail
 go_ret
 exact ⟨ret_int HQ.out.symm,(by repeat (first | assumption | exact Below.refl _ _ | refine below_drewN ?_ _ | refine Below.alloc ?_ (by first | omega | (simp; done) | (simp; omega)) _))⟩
set_option maxHeartbeats 1600000 in
theorem implReadMark_any (s : ByteArray) (w : World) (hs : s.size ≤ maxLen) : Calls Tryz.prog 72 #[.string s] w fun e w' => e = .returned (.int .i64 (rmOf s)) ∧ w = w':=by
 unfold maxLen at hs
 have hbb:=bb_eq s
 by_cases h1 : s.size < 1
 ·skip
  have d1 : decide ((s.size : Int) < 1) = true:=decide_eq_true (by omega)
  have HQ:=Lib.hid (rmOf_no (s:=s) (fun g => by have:=g.1; omega))
  go_enter Tryz.func72,Tryz.ntmps72
  go_wp2_with fail
  go_ret
  exact ⟨ret_int HQ.out.symm,rfl⟩
 have d1 : decide ((s.size : Int) < 1) = false:=decide_eq_false (by omega)
 by_cases h6 : 6 < s.size
 ·skip
  have d2 : decide ((6 : Int) < (s.size : Int)) = true:=decide_eq_true (by omega)
  have HQ:=Lib.hid (rmOf_no (s:=s) (fun g => by have:=g.2.1; omega))
  go_enter Tryz.func72,Tryz.ntmps72
  go_wp2_with fail
  go_ret
  exact ⟨ret_int HQ.out.symm,rfl⟩
 have d2 : decide ((6 : Int) < (s.size : Int)) = false:=decide_eq_false (by omega)
 have hb0:=bb_ge s 0
 by_cases hz : 1 < s.size ∧ bb s 0 = 48
 ·obtain ⟨hz1,hz2⟩:=hz
  have d3 : decide ((1 : Int) < (s.size : Int)) = true:=decide_eq_true (by omega)
  have d4 : (bb s 0 == 48) = true:=by rw [beq_iff_eq]; exact hz2
  have HQ:=Lib.hid (rmOf_no (s:=s) (fun g => g.2.2.1 hz1 hz2))
  go_enter Tryz.func72,Tryz.ntmps72
  go_wp2_with fail
  go_ret
  exact ⟨ret_int HQ.out.symm,rfl⟩
 have HZ:=Lib.hid (show 1 < s.size → bb s 0 ≠ 48 from fun h e => hz ⟨h,e⟩)
 clear hz
 by_cases hm : 1 < s.size
 ·have d3 : decide ((1 : Int) < (s.size : Int)) = true:=decide_eq_true (by omega)
  have d4 : (bb s 0 == 48) = false:=by rw [beq_eq_false_iff_ne]; exact HZ.out hm
  go_enter Tryz.func72,Tryz.ntmps72
  go_wp2_with fail
  go_loop [3,4] (fun n i => ∃ k : Nat,k ≤ s.size ∧ n = .int .i64 (rmV s k) ∧ i = .int .i64 k ∧ Hid (wokTo s k)) (fun _ i => s.size - (intOf i).toNat)
  case atStart => exact ⟨0,Nat.zero_le _,rfl,rfl,Lib.hid (fun j hj => absurd hj (by omega))⟩
  case round =>
   obtain ⟨k,hk,rfl,rfl,HW⟩:=hrel
   have hv:=rmV_six s (k:=k) (by omega)
   by_cases hlt : k < s.size
   ·have hr:=bb_rng s k
    have hd1:=dg_lo (bb s k)
    have hd2:=dg_hi (bb s k)
    by_cases hok : 0 ≤ dg (bb s k)
    ·have HS:=Lib.hid (show (rmV s (k + 1) : Int) = (rmV s k : Int) * 36 + dg (bb s k) by rw [rmV]; omega)
     have hv2:=rmV_six s (k:=k + 1) (by omega)
     have HW2:=Lib.hid (wokTo_succ HW.out (dg_wok.1 hok))
     have e1 : (rmV s k : Int) * 36 + dg (bb s k) < 2176782336:=by rw [← HS.out]; omega
     go_wp2_with (go_at_call 116; refine (digitValue_any _ (by omega) (by omega) _).mono ?_; rintro e w' ⟨rfl,rfl⟩)
     go_round
     case rel => exact ⟨k + 1,by omega,by rw [HS.out],by go_num,HW2⟩
     case measure => simp [intOf]; omega
    ·have HQ:=Lib.hid (rmOf_no (s:=s) (fun g => hok (dg_wok.2 (g.2.2.2.1 k hlt))))
     have e1 : dg (bb s k) < 0:=by omega
     go_wp2_with (go_at_call 116; refine (digitValue_any _ (by omega) (by omega) _).mono ?_; rintro e w' ⟨rfl,rfl⟩)
     go_ret
     exact ⟨ret_int HQ.out.symm,rfl⟩
   ·obtain rfl : k = s.size:=by omega
    by_cases hg : rmV s s.size ≤ 1000000000
    ·have HQ:=Lib.hid (rmOf_yes (s:=s) ⟨by omega,by omega,HZ.out,HW.out,hg⟩)
     have d5 : decide ((1000000000 : Int) < (rmV s s.size : Int)) = false:=decide_eq_false (by omega)
     go_wp2_with fail
     go_ret
     exact ⟨ret_int HQ.out.symm,rfl⟩
    ·have HQ:=Lib.hid (rmOf_no (s:=s) (fun g => hg g.2.2.2.2))
     have d5 : decide ((1000000000 : Int) < (rmV s s.size : Int)) = true:=decide_eq_true (by omega)
     go_wp2_with fail
     go_ret
     exact ⟨ret_int HQ.out.symm,rfl⟩
 ·have d3 : decide ((1 : Int) < (s.size : Int)) = false:=decide_eq_false (by omega)
  go_enter Tryz.func72,Tryz.ntmps72
  go_wp2_with fail
  go_loop [3,4] (fun n i => ∃ k : Nat,k ≤ s.size ∧ n = .int .i64 (rmV s k) ∧ i = .int .i64 k ∧ Hid (wokTo s k)) (fun _ i => s.size - (intOf i).toNat)
  case atStart => exact ⟨0,Nat.zero_le _,rfl,rfl,Lib.hid (fun j hj => absurd hj (by omega))⟩
  case round =>
   obtain ⟨k,hk,rfl,rfl,HW⟩:=hrel
   have hv:=rmV_six s (k:=k) (by omega)
   by_cases hlt : k < s.size
   ·have hr:=bb_rng s k
    have hd1:=dg_lo (bb s k)
    have hd2:=dg_hi (bb s k)
    by_cases hok : 0 ≤ dg (bb s k)
    ·have HS:=Lib.hid (show (rmV s (k + 1) : Int) = (rmV s k : Int) * 36 + dg (bb s k) by rw [rmV]; omega)
     have hv2:=rmV_six s (k:=k + 1) (by omega)
     have HW2:=Lib.hid (wokTo_succ HW.out (dg_wok.1 hok))
     have e1 : (rmV s k : Int) * 36 + dg (bb s k) < 2176782336:=by rw [← HS.out]; omega
     go_wp2_with (go_at_call 116; refine (digitValue_any _ (by omega) (by omega) _).mono ?_; rintro e w' ⟨rfl,rfl⟩)
     go_round
     case rel => exact ⟨k + 1,by omega,by rw [HS.out],by go_num,HW2⟩
     case measure => simp [intOf]; omega
    ·have HQ:=Lib.hid (rmOf_no (s:=s) (fun g => hok (dg_wok.2 (g.2.2.2.1 k hlt))))
     have e1 : dg (bb s k) < 0:=by omega
     go_wp2_with (go_at_call 116; refine (digitValue_any _ (by omega) (by omega) _).mono ?_; rintro e w' ⟨rfl,rfl⟩)
     go_ret
     exact ⟨ret_int HQ.out.symm,rfl⟩
   ·obtain rfl : k = s.size:=by omega
    by_cases hg : rmV s s.size ≤ 1000000000
    ·have HQ:=Lib.hid (rmOf_yes (s:=s) ⟨by omega,by omega,HZ.out,HW.out,hg⟩)
     have d5 : decide ((1000000000 : Int) < (rmV s s.size : Int)) = false:=decide_eq_false (by omega)
     go_wp2_with fail
     go_ret
     exact ⟨ret_int HQ.out.symm,rfl⟩
    ·have HQ:=Lib.hid (rmOf_no (s:=s) (fun g => hg g.2.2.2.2))
     have d5 : decide ((1000000000 : Int) < (rmV s s.size : Int)) = true:=decide_eq_true (by omega)
     go_wp2_with fail
     go_ret
     exact ⟨ret_int HQ.out.symm,rfl⟩
end Go.Proofs.YtfnmlffpnmmcdaaGreatDoor
namespace Go.Proofs
set_option maxRecDepth 100000
open Go.Shelf
def Tryz.lays146_ren : Go.Shelf.Ren:=⟨fun | 146 => 69 | 221 => 117 | 268 => 142 | 138 => 143 | 143 => 144 | 195 => 166 | 197 => 167 | 218 => 168 | 219 => 128 | 260 => 177 | 217 => 151 | 225 => 152 | 224 => 153 | 267 => 154 | 266 => 172 | 314 => 173 | n => n,fun | 9 => 9 | 31 => 51 | 3 => 3 | 4 => 4 | 0 => 0 | 105 => 165 | 21 => 21 | 5 => 5 | 46 => 160 | 119 => 175 | 139 => 178 | 138 => 177 | 146 => 171 | 51 => 170 | n => n,fun | 1 => 1 | 3 => 2 | 4 => 3 | n => n⟩
theorem Tryz.lays146 : Go.Proofs.Lays.n146 Tryz.prog Tryz.lays146_ren:={
 mixed:=by kernel_rfl
 f138:=Tryz.func143.trans (congrArg some (by kernel_rfl))
 f143:=Tryz.func144.trans (congrArg some (by kernel_rfl))
 f146:=Tryz.func69.trans (congrArg some (by kernel_rfl))
 f195:=Tryz.func166.trans (congrArg some (by kernel_rfl))
 f197:=Tryz.func167.trans (congrArg some (by kernel_rfl))
 f217:=Tryz.func151.trans (congrArg some (by kernel_rfl))
 f218:=Tryz.func168.trans (congrArg some (by kernel_rfl))
 f219:=Tryz.func128.trans (congrArg some (by kernel_rfl))
 f221:=Tryz.func117.trans (congrArg some (by kernel_rfl))
 f224:=Tryz.func153.trans (congrArg some (by kernel_rfl))
 f225:=Tryz.func152.trans (congrArg some (by kernel_rfl))
 f260:=Tryz.func177.trans (congrArg some (by kernel_rfl))
 f266:=Tryz.func172.trans (congrArg some (by kernel_rfl))
 f267:=Tryz.func154.trans (congrArg some (by kernel_rfl))
 f268:=Tryz.func142.trans (congrArg some (by kernel_rfl))
 f314:=Tryz.func173.trans (congrArg some (by kernel_rfl))
 t0:=Tryz.underlying0
 a0:=Tryz.isAgg0
 z0:=Tryz.sizeOf0
 v0:=Tryz.zeroValue0
 t3:=Tryz.underlying3
 a3:=Tryz.isAgg3
 z3:=Tryz.sizeOf3
 v3:=Tryz.zeroValue3
 t4:=Tryz.underlying4
 a4:=Tryz.isAgg4
 z4:=Tryz.sizeOf4
 v4:=Tryz.zeroValue4
 t5:=Tryz.underlying5
 a5:=Tryz.isAgg5
 z5:=Tryz.sizeOf5
 v5:=Tryz.zeroValue5
 t9:=Tryz.underlying9
 a9:=Tryz.isAgg9
 z9:=Tryz.sizeOf9
 v9:=Tryz.zeroValue9
 t21:=Tryz.underlying21
 a21:=Tryz.isAgg21
 z21:=Tryz.sizeOf21
 v21:=Tryz.zeroValue21
 t31:=Tryz.underlying51
 a31:=Tryz.isAgg51
 z31:=Tryz.sizeOf51
 v31:=Tryz.zeroValue51
 t46:=Tryz.underlying160
 a46:=Tryz.isAgg160
 z46:=Tryz.sizeOf160
 v46:=Tryz.zeroValue160
 t51:=Tryz.underlying170
 a51:=Tryz.isAgg170
 z51:=Tryz.sizeOf170
 v51:=Tryz.zeroValue170
 t105:=Tryz.underlying165
 a105:=Tryz.isAgg165
 z105:=Tryz.sizeOf165
 v105:=Tryz.zeroValue165
 t119:=Tryz.underlying175
 a119:=Tryz.isAgg175
 z119:=Tryz.sizeOf175
 t138:=Tryz.underlying177
 a138:=Tryz.isAgg177
 z138:=Tryz.sizeOf177
 v138:=Tryz.zeroValue177
 t139:=Tryz.underlying178
 a139:=Tryz.isAgg178
 z139:=Tryz.sizeOf178
 v139:=Tryz.zeroValue178
 t146:=Tryz.underlying171
 a146:=Tryz.isAgg171
 z146:=Tryz.sizeOf171
 v146:=Tryz.zeroValue171
 g1:=by kernel_rfl
 g3:=by kernel_rfl
 g4:=by kernel_rfl }
open Go.RowKit Go.Lib in
set_option maxHeartbeats 1000000 in
set_option maxRecDepth 100000 in
theorem Tryz.split_one (s : ByteArray) (c : UInt8) (w : World) (hs : s.size < 4294967281) :
    Calls Tryz.prog 69 #[.string s,.string ⟨#[c]⟩] w fun e w' =>
     e = .returned (.slice (some ⟨w.heap.size,0,none⟩) (Lib.countB s ⟨#[c]⟩ + 1) (Lib.countB s ⟨#[c]⟩ + 1)) ∧ w' = w.alloc (.cells ((Lib.splitB ⟨#[c]⟩ 0 (Lib.countB s ⟨#[c]⟩) s).map Value.string).toArray 9):=by
 have L:=Tryz.lays146
 have h1 : 1 ≤ (⟨#[c]⟩ : ByteArray).size:=Nat.le_refl 1
 have hle:=Lib.countB_le ⟨#[c]⟩ h1 s.size s (Nat.le_refl _)
 have hlen:=Lib.splitB_all ⟨#[c]⟩ h1 0 _ s rfl
 have core:=Any.strings_genSplit_core { L with } (by kernel_rfl) s ⟨#[c]⟩ 0 (-1) (Lib.countB s ⟨#[c]⟩ + 1) w hs h1 (Nat.zero_le _)
  (fun x k _ => (Any.strings_Index_one { L with } x c _).mono fun e w' ⟨he,hw⟩ => ⟨by rw [he,← Lib.index_one],hw⟩)
  ((Any.strings_Count_one { L with } s c w).mono fun e w' ⟨he,hw⟩ => ⟨by
   rw [he]
   show _ = Ending.returned (Value.int .i64 ((Lib.count s.data.toList [c] : Nat) : Int))
   rw [Lib.count_one]
   rfl,hw⟩)
  (by decide) (by decide) (by rw [if_pos (by decide)]; omega)
 rw [Nat.add_sub_cancel,hlen] at core
 have e2 : Lib.cellsOf (Lib.splitB ⟨#[c]⟩ 0 (Lib.countB s ⟨#[c]⟩) s) (Lib.countB s ⟨#[c]⟩ + 1) = ((Lib.splitB ⟨#[c]⟩ 0 (Lib.countB s ⟨#[c]⟩) s).map Value.string).toArray:=by rw [← hlen]; exact Lib.cellsOf_full _
 rw [e2] at core
 go_enter Tryz.func69,Tryz.ntmps69
 go_wp2_with fail
 refine core.mono ?_
 rintro e w' ⟨rfl,rfl⟩
 go_wp2_with fail
 go_ret
 exact ⟨rfl,rfl⟩
end Go.Proofs
namespace Go.Proofs.YtfnmlffpnmmcdaaGreatDoor
set_option maxRecDepth 100000
open Go.RowKit
theorem split_sizes (sep : ByteArray) : ∀ (k : Nat) (s x : ByteArray),x ∈ Lib.splitB sep 0 k s → x.size ≤ s.size
 | 0,s,x,h => by rw [Lib.splitB_zero,List.mem_singleton] at h; rw [h]; exact Nat.le_refl _
 | k + 1,s,x,h => by
  rcases Lib.indexB_cases s sep with hix | ⟨i,hix,hroom⟩
  ·rw [Lib.splitB_miss _ _ _ _ hix,List.mem_singleton] at h; rw [h]; exact Nat.le_refl _
  ·rw [Lib.splitB_hit _ _ _ _ _ hix,List.mem_cons] at h
   rcases h with rfl | h
   ·rw [ByteArray.size_extract]; omega
   ·have:=split_sizes sep k _ x h
    rw [ByteArray.size_extract] at this
    omega
theorem spL_sizes {s x : ByteArray} (h : x ∈ spL s) : x.size ≤ s.size:=split_sizes _ _ _ _ h
theorem spL_cell (s : ByteArray) (w : World) (j : Nat) (hj : j < (spL s).length) : (w.alloc (.cells ((spL s).map Value.string).toArray 9)).cell? ⟨w.heap.size,j,none⟩ = some (Value.string (gt (spL s) j)):=by
 rw [World.cell?_alloc_at _ _ _ _ rfl]
 show ((spL s).map Value.string).toArray[j]? = _
 rw [List.getElem?_toArray,List.getElem?_map,List.getElem?_eq_getElem hj]
 unfold gt
 rw [List.getElem?_eq_getElem hj]
 rfl
def acF (k n : Int) (a b t : ByteArray) : Nat → Value
 | 0 => .int .i64 k
 | 1 => .int .i64 n
 | 2 => .string a
 | 3 => .string b
 | _ => .string t
def boxA (N : Nat) : Spec:=fun v w => ∃ b,v = .pointer (some ⟨b,0,none⟩) ∧ N ≤ b ∧ Own w b 45 5 (some ⟨b,0,none⟩) 1 1 (acF 0 0 { data:=#[] } { data:=#[] } { data:=#[] })
theorem boxA_stb (N : Nat) : StbB (boxA N):=fun _ _ _ h ⟨b,h1,h2,h3⟩ => ⟨b,h1,h2,Own.below h3 h⟩
set_option maxHeartbeats 3200000 in
theorem implReadActivity_any (s : ByteArray) (w : World) (hs : s.size ≤ 1048576) (hT : KwTab w) : Calls Tryz.prog 18 #[.string s] w fun e w' => e = .returned (.tuple #[.agg #[.int .i64 (raOf s).1,.int .i64 (raOf s).2.1,.string (raOf s).2.2.1,.string (raOf s).2.2.2.1,.string (raOf s).2.2.2.2],.bool (raOk s)]) ∧ Below w.heap.size w w':=by
 have z0 : (w.alloc (.cells #[Value.int .i64 0,Value.int .i64 0,Value.string { data:=#[] },Value.string { data:=#[] },Value.string { data:=#[] }] 45)).heap.size = w.heap.size + 1:=by simp
 have b0 : Below w.heap.size w (w.alloc (.cells #[Value.int .i64 0,Value.int .i64 0,Value.string { data:=#[] },Value.string { data:=#[] },Value.string { data:=#[] }] 45)):=(Below.refl _ _).alloc (Nat.le_refl _) _
 have b1 : Below (w.alloc (.cells #[Value.int .i64 0,Value.int .i64 0,Value.string { data:=#[] },Value.string { data:=#[] },Value.string { data:=#[] }] 45)).heap.size (w.alloc (.cells #[Value.int .i64 0,Value.int .i64 0,Value.string { data:=#[] },Value.string { data:=#[] },Value.string { data:=#[] }] 45)) ((w.alloc (.cells #[Value.int .i64 0,Value.int .i64 0,Value.string { data:=#[] },Value.string { data:=#[] },Value.string { data:=#[] }] 45)).alloc (.cells ((spL s).map Value.string).toArray 9)):=(Below.refl _ _).alloc (Nat.le_refl _) _
 have oR : Own (w.alloc (.cells #[Value.int .i64 0,Value.int .i64 0,Value.string { data:=#[] },Value.string { data:=#[] },Value.string { data:=#[] }] 45)) w.heap.size 45 5 (some ⟨w.heap.size,0,none⟩) 1 1 (acF 0 0 { data:=#[] } { data:=#[] } { data:=#[] }):=Own.lit w 45 5 1 #[Value.int .i64 0,Value.int .i64 0,Value.string { data:=#[] },Value.string { data:=#[] },Value.string { data:=#[] }] _ (by simp only [maxLen]; omega) rfl
 have oR1:=Own.below oR b1
 have k1:=b0.trans (b1.mono b0.size)
 have hz1 : ((w.alloc (.cells #[Value.int .i64 0,Value.int .i64 0,Value.string { data:=#[] },Value.string { data:=#[] },Value.string { data:=#[] }] 45)).alloc (.cells ((spL s).map Value.string).toArray 9)).heap.size = w.heap.size + 2:=by simp
 have HZ:=Lib.hid (fun x (hx : x ∈ spL s) => spL_sizes hx)
 have hcell:=fun j (hj : j < (spL s).length) => spL_cell s (w.alloc (.cells #[Value.int .i64 0,Value.int .i64 0,Value.string { data:=#[] },Value.string { data:=#[] },Value.string { data:=#[] }] 45)) j hj
 have hsp:=Tryz.split_one s 32 (w.alloc (.cells #[Value.int .i64 0,Value.int .i64 0,Value.string { data:=#[] },Value.string { data:=#[] },Value.string { data:=#[] }] 45)) (by omega)
 have hlen:=spL_len s
 rw [show (Lib.splitB ⟨#[32]⟩ 0 (Lib.countB s ⟨#[32]⟩) s) = spL s from rfl,show Lib.countB s ⟨#[32]⟩ + 1 = (spL s).length from hlen.symm,z0] at hsp
 rw [z0] at hcell
 have HSP:=Lib.hid hsp
 clear hsp hlen
 have HT:=Lib.hid hT
 clear hT b1 oR
 go_enter Tryz.func18,Tryz.ntmps18
 go_wp2_with fail
 refine HSP.out.mono ?_
 rintro e w1 ⟨rfl,rfl⟩
 by_cases h4 : (spL s).length = 4
 ·skip
  have c0:=hcell 0 (by omega)
  have c1:=hcell 1 (by omega)
  have c2:=hcell 2 (by omega)
  have c3:=hcell 3 (by omega)
  have y0:=HZ.out _ (gt_mem (xs:=spL s) (k:=0) (by omega))
  have y1:=HZ.out _ (gt_mem (xs:=spL s) (k:=1) (by omega))
  have y2:=HZ.out _ (gt_mem (xs:=spL s) (k:=2) (by omega))
  have y3:=HZ.out _ (gt_mem (xs:=spL s) (k:=3) (by omega))
  clear hcell
  have HK:=Lib.hid (raOk_four h4)
  have HF:=Lib.hid h4
  rw [h4]
  generalize hp0 : gt (spL s) 0 = p0 at *
  generalize hp1 : gt (spL s) 1 = p1 at *
  generalize hp2 : gt (spL s) 2 = p2 at *
  generalize hp3 : gt (spL s) 3 = p3 at *
  have HP:=Lib.hid (show raK s = kdOf p0 ∧ raN s = rmOf p1 ∧ raW s = rhOf p2 ∧ raT s = p3 by unfold raK raN raW raT; rw [hp0,hp1,hp2,hp3]; exact ⟨rfl,rfl,rfl,rfl⟩)
  clear hp0 hp1 hp2 hp3 h4 HSP
  generalize ((w.alloc (.cells #[Value.int .i64 0,Value.int .i64 0,Value.string { data:=#[] },Value.string { data:=#[] },Value.string { data:=#[] }] 45)).alloc (.cells ((spL s).map Value.string).toArray 9)) = w1 at *
  have hT1:=HT.out.below k1 (Nat.le_refl _)
  go_wp2_with fail
  refine (implReadHandle_any p2 w1 (by simp only [maxLen]; omega)).mono ?_
  rintro e w2 ⟨rfl,b2⟩
  have k2:=k1.trans (b2.mono k1.size)
  have oR2:=Own.below oR1 b2
  have hT2:=hT1.below b2 (Nat.le_refl _)
  have c02:=(b2.cell (p:=⟨w.heap.size + 1,0,none⟩) (by show w.heap.size + 1 < _; omega)).trans c0
  have c12:=(b2.cell (p:=⟨w.heap.size + 1,1,none⟩) (by show w.heap.size + 1 < _; omega)).trans c1
  have c32:=(b2.cell (p:=⟨w.heap.size + 1,3,none⟩) (by show w.heap.size + 1 < _; omega)).trans c3
  have z2:=b2.size
  clear c0 c1 c2 c3 oR1 hT1
  have b3 : Below w2.heap.size w2 (w2.alloc (.cells #[Value.string (rhOf p2).1,Value.string (rhOf p2).2] 29)):=(Below.refl _ _).alloc (Nat.le_refl _) _
  have z3 : (w2.alloc (.cells #[Value.string (rhOf p2).1,Value.string (rhOf p2).2] 29)).heap.size = w2.heap.size + 1:=by simp
  have k3:=k2.trans (b3.mono k2.size)
  have oR3:=Own.below oR2 b3
  have hT3:=hT2.below b3 (Nat.le_refl _)
  have c03:=(b3.cell (p:=⟨w.heap.size + 1,0,none⟩) (by show w.heap.size + 1 < _; omega)).trans c02
  have c13:=(b3.cell (p:=⟨w.heap.size + 1,1,none⟩) (by show w.heap.size + 1 < _; omega)).trans c12
  have c33:=(b3.cell (p:=⟨w.heap.size + 1,3,none⟩) (by show w.heap.size + 1 < _; omega)).trans c32
  have h0 : (w2.alloc (.cells #[Value.string (rhOf p2).1,Value.string (rhOf p2).2] 29)).cell? ⟨w2.heap.size,0,none⟩ = some (Value.string (rhOf p2).1):=by rw [World.cell?_alloc_at _ _ _ _ rfl]; rfl
  have h1 : (w2.alloc (.cells #[Value.string (rhOf p2).1,Value.string (rhOf p2).2] 29)).cell? ⟨w2.heap.size,1,none⟩ = some (Value.string (rhOf p2).2):=by rw [World.cell?_alloc_at _ _ _ _ rfl]; rfl
  clear c02 c12 c32 oR2 hT2
  go_upto_region 5 with fail
  clear b3
  generalize (w2.alloc (.cells #[Value.string (rhOf p2).1,Value.string (rhOf p2).2] 29)) = w3 at *
  refine wp_region_makes 14 [(isS (.slice (some ⟨w.heap.size + 1,0,none⟩) 4 4)),(isS (.pointer (some ⟨w.heap.size + 1,0,none⟩))),(isS (.string p0)),(isS (.int .i64 (kdOf p0))),(isS (.slice (some ⟨w.heap.size + 1,0,none⟩) 4 4)),(isS (.pointer (some ⟨w.heap.size + 1,1,none⟩))),(isS (.string p1)),(isS (.int .i64 (rmOf p1))),(isS (.agg #[Value.string (rhOf p2).1,Value.string (rhOf p2).2])),(isS (.slice (some ⟨w.heap.size + 1,0,none⟩) 4 4)),(isS (.pointer (some ⟨w.heap.size + 1,3,none⟩))),(isS (.string p3)),(isS (.agg #[Value.int .i64 (kdOf p0),Value.int .i64 (rmOf p1),Value.string (rhOf p2).1,Value.string (rhOf p2).2,Value.string p3])),(boxA w2.heap.size)] [0,0,0,0,0,0,0,0,0,0,0,0,0,0] (by kernel_rfl) (by kernel_rfl) (by rfl) (by rfl) (by rfl) ?_ ?_ ?_
  ·repeat (first | exact stbB_nil | refine stbB_cons (by first | exact isS_stb _ | exact boxA_stb _) ?_)
  ·simp only [List.take_succ_cons,List.take_zero]
   refine looseSteps_cons (fun kk a' w' hk0' hk1' hR hG hkp hd => ?_) ?_
   ·have hR0 : Below w3.drew.heap.size w3.drew w':=hR
    have hRb : Below w3.heap.size w3 w':=⟨hR0.os,hR0.tape,hR0.output,hR0.size,hR0.block⟩
    have k4' : a'.tmps.getD 4 undef = .slice (some ⟨w.heap.size + 1,0,none⟩) 4 4:=hkp 4 (by rfl)
    unfold looseRun
    go_simp
    exact ⟨Below.refl _ _,trivial,rfl⟩
   refine looseSteps_cons (fun kk a' w' hk0' hk1' hR hG hkp hd => ?_) ?_
   ·have hR0 : Below w3.drew.heap.size w3.drew w':=hR
    have hRb : Below w3.heap.size w3 w':=⟨hR0.os,hR0.tape,hR0.output,hR0.size,hR0.block⟩
    have e1:=hd.1 rfl
    have e1' : a'.tmps.getD 21 undef = _:=e1
    have e1q:=e1'
    rw [Array.getD_eq_getD_getElem?] at e1q
    unfold looseRun
    go_simp
    exact ⟨Below.refl _ _,trivial,rfl⟩
   refine looseSteps_cons (fun kk a' w' hk0' hk1' hR hG hkp hd => ?_) ?_
   ·have hR0 : Below w3.drew.heap.size w3.drew w':=hR
    have hRb : Below w3.heap.size w3 w':=⟨hR0.os,hR0.tape,hR0.output,hR0.size,hR0.block⟩
    have e1:=hd.1 rfl
    have e1' : a'.tmps.getD 22 undef = _:=e1
    have e1q:=e1'
    rw [Array.getD_eq_getD_getElem?] at e1q
    have rr:=(hRb.cell (p:=⟨w.heap.size + 1,0,none⟩) (by show w.heap.size + 1 < _; omega)).trans c03
    unfold looseRun
    go_simp
    exact ⟨Below.refl _ _,trivial,rfl⟩
   refine looseSteps_cons (fun kk a' w' hk0' hk1' hR hG hkp hd => ?_) ?_
   ·have hR0 : Below w3.drew.heap.size w3.drew w':=hR
    have hRb : Below w3.heap.size w3 w':=⟨hR0.os,hR0.tape,hR0.output,hR0.size,hR0.block⟩
    have e1:=hd.1 rfl
    have e1' : a'.tmps.getD 23 undef = _:=e1
    have e1q:=e1'
    rw [Array.getD_eq_getD_getElem?] at e1q
    unfold looseRun
    go_simp
    refine ⟨rfl,(kindOf_any p0 w' (hT3.below hRb (Nat.le_refl _))).mono ?_⟩
    rintro e u ⟨rfl,hb2⟩
    exact ⟨_,rfl,hb2,trivial,rfl⟩
   refine looseSteps_cons (fun kk a' w' hk0' hk1' hR hG hkp hd => ?_) ?_
   ·have hR0 : Below w3.drew.heap.size w3.drew w':=hR
    have hRb : Below w3.heap.size w3 w':=⟨hR0.os,hR0.tape,hR0.output,hR0.size,hR0.block⟩
    have k4' : a'.tmps.getD 4 undef = .slice (some ⟨w.heap.size + 1,0,none⟩) 4 4:=hkp 4 (by rfl)
    unfold looseRun
    go_simp
    exact ⟨Below.refl _ _,trivial,rfl⟩
   refine looseSteps_cons (fun kk a' w' hk0' hk1' hR hG hkp hd => ?_) ?_
   ·have hR0 : Below w3.drew.heap.size w3.drew w':=hR
    have hRb : Below w3.heap.size w3 w':=⟨hR0.os,hR0.tape,hR0.output,hR0.size,hR0.block⟩
    have e1:=hd.1 rfl
    have e1' : a'.tmps.getD 25 undef = _:=e1
    have e1q:=e1'
    rw [Array.getD_eq_getD_getElem?] at e1q
    unfold looseRun
    go_simp
    exact ⟨Below.refl _ _,trivial,rfl⟩
   refine looseSteps_cons (fun kk a' w' hk0' hk1' hR hG hkp hd => ?_) ?_
   ·have hR0 : Below w3.drew.heap.size w3.drew w':=hR
    have hRb : Below w3.heap.size w3 w':=⟨hR0.os,hR0.tape,hR0.output,hR0.size,hR0.block⟩
    have e1:=hd.1 rfl
    have e1' : a'.tmps.getD 26 undef = _:=e1
    have e1q:=e1'
    rw [Array.getD_eq_getD_getElem?] at e1q
    have rr:=(hRb.cell (p:=⟨w.heap.size + 1,1,none⟩) (by show w.heap.size + 1 < _; omega)).trans c13
    unfold looseRun
    go_simp
    exact ⟨Below.refl _ _,trivial,rfl⟩
   refine looseSteps_cons (fun kk a' w' hk0' hk1' hR hG hkp hd => ?_) ?_
   ·have hR0 : Below w3.drew.heap.size w3.drew w':=hR
    have hRb : Below w3.heap.size w3 w':=⟨hR0.os,hR0.tape,hR0.output,hR0.size,hR0.block⟩
    have e1:=hd.1 rfl
    have e1' : a'.tmps.getD 27 undef = _:=e1
    have e1q:=e1'
    rw [Array.getD_eq_getD_getElem?] at e1q
    unfold looseRun
    go_simp
    refine ⟨rfl,(implReadMark_any p1 w' (by simp only [maxLen]; omega)).mono ?_⟩
    rintro e u ⟨rfl,rfl⟩
    exact ⟨_,rfl,Below.refl _ _,trivial,rfl⟩
   refine looseSteps_cons (fun kk a' w' hk0' hk1' hR hG hkp hd => ?_) ?_
   ·have hR0 : Below w3.drew.heap.size w3.drew w':=hR
    have hRb : Below w3.heap.size w3 w':=⟨hR0.os,hR0.tape,hR0.output,hR0.size,hR0.block⟩
    have k5' : a'.tmps.getD 5 undef = .pointer (some ⟨w2.heap.size,0,none⟩):=hkp 5 (by rfl)
    have rr0:=(hRb.cell (p:=⟨w2.heap.size,0,none⟩) (by show w2.heap.size < _; omega)).trans h0
    have rr1:=(hRb.cell (p:=⟨w2.heap.size,1,none⟩) (by show w2.heap.size < _; omega)).trans h1
    unfold looseRun
    go_simp
    exact ⟨Below.refl _ _,trivial,rfl⟩
   refine looseSteps_cons (fun kk a' w' hk0' hk1' hR hG hkp hd => ?_) ?_
   ·have hR0 : Below w3.drew.heap.size w3.drew w':=hR
    have hRb : Below w3.heap.size w3 w':=⟨hR0.os,hR0.tape,hR0.output,hR0.size,hR0.block⟩
    have k4' : a'.tmps.getD 4 undef = .slice (some ⟨w.heap.size + 1,0,none⟩) 4 4:=hkp 4 (by rfl)
    unfold looseRun
    go_simp
    exact ⟨Below.refl _ _,trivial,rfl⟩
   refine looseSteps_cons (fun kk a' w' hk0' hk1' hR hG hkp hd => ?_) ?_
   ·have hR0 : Below w3.drew.heap.size w3.drew w':=hR
    have hRb : Below w3.heap.size w3 w':=⟨hR0.os,hR0.tape,hR0.output,hR0.size,hR0.block⟩
    have e1:=hd.1 rfl
    have e1' : a'.tmps.getD 30 undef = _:=e1
    have e1q:=e1'
    rw [Array.getD_eq_getD_getElem?] at e1q
    unfold looseRun
    go_simp
    exact ⟨Below.refl _ _,trivial,rfl⟩
   refine looseSteps_cons (fun kk a' w' hk0' hk1' hR hG hkp hd => ?_) ?_
   ·have hR0 : Below w3.drew.heap.size w3.drew w':=hR
    have hRb : Below w3.heap.size w3 w':=⟨hR0.os,hR0.tape,hR0.output,hR0.size,hR0.block⟩
    have e1:=hd.1 rfl
    have e1' : a'.tmps.getD 31 undef = _:=e1
    have e1q:=e1'
    rw [Array.getD_eq_getD_getElem?] at e1q
    have rr:=(hRb.cell (p:=⟨w.heap.size + 1,3,none⟩) (by show w.heap.size + 1 < _; omega)).trans c33
    unfold looseRun
    go_simp
    exact ⟨Below.refl _ _,trivial,rfl⟩
   refine looseSteps_cons (fun kk a' w' hk0' hk1' hR hG hkp hd => ?_) ?_
   ·have hR0 : Below w3.drew.heap.size w3.drew w':=hR
    have hRb : Below w3.heap.size w3 w':=⟨hR0.os,hR0.tape,hR0.output,hR0.size,hR0.block⟩
    have e1:=hd.1 rfl
    have e2:=hd.2.1 rfl
    have e3:=hd.2.2.1 rfl
    have e4:=hd.2.2.2.1 rfl
    have e1' : a'.tmps.getD 24 undef = _:=e1
    have e1q:=e1'
    rw [Array.getD_eq_getD_getElem?] at e1q
    have e2' : a'.tmps.getD 28 undef = _:=e2
    have e2q:=e2'
    rw [Array.getD_eq_getD_getElem?] at e2q
    have e3' : a'.tmps.getD 29 undef = _:=e3
    have e3q:=e3'
    rw [Array.getD_eq_getD_getElem?] at e3q
    have e4' : a'.tmps.getD 32 undef = _:=e4
    have e4q:=e4'
    rw [Array.getD_eq_getD_getElem?] at e4q
    unfold looseRun
    go_simp
    exact ⟨Below.refl _ _,trivial,rfl⟩
   refine looseSteps_cons (fun kk a' w' hk0' hk1' hR hG hkp hd => ?_) ?_
   ·have hR0 : Below w3.drew.heap.size w3.drew w':=hR
    have hRb : Below w3.heap.size w3 w':=⟨hR0.os,hR0.tape,hR0.output,hR0.size,hR0.block⟩
    unfold looseRun
    go_simp
    exact ⟨below_new _ _,trivial,w'.heap.size,rfl,Nat.le_trans (by omega) hRb.size,Own.lit w' 45 5 1 #[Value.int .i64 0,Value.int .i64 0,Value.string { data:=#[] },Value.string { data:=#[] },Value.string { data:=#[] }] _ (by simp only [maxLen]; omega) rfl⟩
   exact looseSteps_nil
  ·intro w5 b5
   simp only [List.take_succ_cons,List.take_zero,List.drop_succ_cons,List.drop_zero]
   refine looseAll_cons fun v1 g1 => ?_
   refine looseAll_cons fun v2 g2 => ?_
   refine looseAll_cons fun v3 g3 => ?_
   refine looseAll_cons fun v4 g4 => ?_
   refine looseAll_cons fun v5 g5 => ?_
   refine looseAll_cons fun v6 g6 => ?_
   refine looseAll_cons fun v7 g7 => ?_
   refine looseAll_cons fun v8 g8 => ?_
   refine looseAll_cons fun v9 g9 => ?_
   refine looseAll_cons fun v10 g10 => ?_
   refine looseAll_cons fun v11 g11 => ?_
   refine looseAll_cons fun v12 g12 => ?_
   refine looseAll_cons fun v13 g13 => ?_
   refine looseAll_cons fun v14 g14 => ?_
   refine looseAll_nil ?_
   have e13 : v13 = .agg #[Value.int .i64 (kdOf p0),Value.int .i64 (rmOf p1),Value.string (rhOf p2).1,Value.string (rhOf p2).2,Value.string p3]:=g13
   subst e13
   obtain ⟨b,rfl,hbN,oN5⟩:=g14
   clear g1 g2 g3 g4 g5 g6 g7 g8 g9 g10 g11 g12 g13 h0 h1 c03 c13 c33 hT3
   have k5:=k3.trans (b5.mono k3.size)
   have oR5:=Own.below oR3 b5
   have z5:=b5.size
   clear oR3 b5
   simp only [Act.put,List.setIfInBounds_toArray,List.set_cons_zero,List.set_cons_succ]
   have a0:=(show _ = some (Value.int .i64 0) from oN5.cell rfl (j:=0) (by omega))
   have fz0:=oN5.frozen rfl 0
   have a1:=(show _ = some (Value.int .i64 0) from oN5.cell rfl (j:=1) (by omega))
   have fz1:=oN5.frozen rfl 1
   have a2:=(show _ = some (Value.string { data:=#[] }) from oN5.cell rfl (j:=2) (by omega))
   have fz2:=oN5.frozen rfl 2
   have a3:=(show _ = some (Value.string { data:=#[] }) from oN5.cell rfl (j:=3) (by omega))
   have fz3:=oN5.frozen rfl 3
   have a4:=(show _ = some (Value.string { data:=#[] }) from oN5.cell rfl (j:=4) (by omega))
   have fz4:=oN5.frozen rfl 4
   have s0:=Own.set oN5 rfl (j:=0) (Value.int .i64 (kdOf p0))
   have s1:=Own.set s0.1 rfl (j:=1) (Value.int .i64 (rmOf p1))
   have s2:=Own.set s1.1 rfl (j:=2) (Value.string (rhOf p2).1)
   have s3:=Own.set s2.1 rfl (j:=3) (Value.string (rhOf p2).2)
   have s4:=Own.set s3.1 rfl (j:=4) (Value.string p3)
   have oR6:=(own_setN (own_setN (own_setN (own_setN (own_setN oR5 b 0 (Value.int .i64 (kdOf p0)) (fun b1 hb => by simp [blk] at hb; omega)) b 1 (Value.int .i64 (rmOf p1)) (fun b1 hb => by simp [blk] at hb; omega)) b 2 (Value.string (rhOf p2).1) (fun b1 hb => by simp [blk] at hb; omega)) b 3 (Value.string (rhOf p2).2) (fun b1 hb => by simp [blk] at hb; omega)) b 4 (Value.string p3) (fun b1 hb => by simp [blk] at hb; omega))
   have k6:=(((((k5.setCell (p:=⟨b,0,none⟩) (by show w.heap.size ≤ b; omega) (Value.int .i64 (kdOf p0))).setCell (p:=⟨b,1,none⟩) (by show w.heap.size ≤ b; omega) (Value.int .i64 (rmOf p1))).setCell (p:=⟨b,2,none⟩) (by show w.heap.size ≤ b; omega) (Value.string (rhOf p2).1)).setCell (p:=⟨b,3,none⟩) (by show w.heap.size ≤ b; omega) (Value.string (rhOf p2).2)).setCell (p:=⟨b,4,none⟩) (by show w.heap.size ≤ b; omega) (Value.string p3))
   have oN6 : Own (((((w5.setCell ⟨b,0,none⟩ (Value.int .i64 (kdOf p0))).setCell ⟨b,1,none⟩ (Value.int .i64 (rmOf p1))).setCell ⟨b,2,none⟩ (Value.string (rhOf p2).1)).setCell ⟨b,3,none⟩ (Value.string (rhOf p2).2)).setCell ⟨b,4,none⟩ (Value.string p3)) b 45 5 (some ⟨b,0,none⟩) 1 1 (acF (kdOf p0) (rmOf p1) (rhOf p2).1 (rhOf p2).2 p3):=Own.congr s4.1 (fun j hj => by rcases (by omega : j = 0 ∨ j = 1 ∨ j = 2 ∨ j = 3 ∨ j = 4) with rfl | rfl | rfl | rfl | rfl <;> rfl)
   have zb6:=(oN6.lt (b:=b) rfl).2
   clear s0 s1 s2 s3 s4
   go_upto_region 6 with fail
   clear a0 a1 a2 a3 a4 fz0 fz1 fz2 fz3 fz4 oN5 oR5 k5
   generalize (((((w5.setCell ⟨b,0,none⟩ (Value.int .i64 (kdOf p0))).setCell ⟨b,1,none⟩ (Value.int .i64 (rmOf p1))).setCell ⟨b,2,none⟩ (Value.string (rhOf p2).1)).setCell ⟨b,3,none⟩ (Value.string (rhOf p2).2)).setCell ⟨b,4,none⟩ (Value.string p3)) = w6 at *
   have a0:=(show _ = some (Value.int .i64 (kdOf p0)) from oN6.cell rfl (j:=0) (by omega))
   have a1:=(show _ = some (Value.int .i64 (rmOf p1)) from oN6.cell rfl (j:=1) (by omega))
   have a2:=(show _ = some (Value.string (rhOf p2).1) from oN6.cell rfl (j:=2) (by omega))
   have a3:=(show _ = some (Value.string (rhOf p2).2) from oN6.cell rfl (j:=3) (by omega))
   have a4:=(show _ = some (Value.string p3) from oN6.cell rfl (j:=4) (by omega))
   have hv1 : (rhOf p2).1.size ≤ maxLen:=by unfold rhOf rhH; split <;> first | (simp only [maxLen,ByteArray.size_extract]; omega) | (simp only [maxLen]; decide)
   have hv2 : (rhOf p2).2.size ≤ maxLen:=by unfold rhOf rhH; split <;> first | (simp only [maxLen,ByteArray.size_extract]; omega) | (simp only [maxLen]; decide)
   go_wp2_with fail
   refine (implActivityValid_any (kdOf p0) (rmOf p1) (rhOf p2) p3 w6 hv1 hv2 (by simp only [maxLen]; omega)).mono ?_
   rintro e w7 ⟨rfl,b7⟩
   have k7:=k6.trans (b7.mono k6.size)
   have oR7:=Own.below oR6 b7
   have oN7:=Own.below oN6 b7
   clear a0 a1 a2 a3 a4 oR6 oN6
   have HA:=Lib.hid (HK.out.trans (by rw [HP.out.1,HP.out.2.1,HP.out.2.2.1,HP.out.2.2.2] : _ = acB (kdOf p0) (rmOf p1) (rhOf p2) p3))
   cases hq : acB (kdOf p0) (rmOf p1) (rhOf p2) p3
   ·have HQ : Hid (raOk s = false):=Lib.hid (HA.out.trans hq)
    clear hq HA
    have r0:=(show _ = some (Value.int .i64 0) from oR7.cell rfl (j:=0) (by omega))
    have rf0:=oR7.frozen rfl 0
    have r1:=(show _ = some (Value.int .i64 0) from oR7.cell rfl (j:=1) (by omega))
    have rf1:=oR7.frozen rfl 1
    have r2:=(show _ = some (Value.string { data:=#[] }) from oR7.cell rfl (j:=2) (by omega))
    have rf2:=oR7.frozen rfl 2
    have r3:=(show _ = some (Value.string { data:=#[] }) from oR7.cell rfl (j:=3) (by omega))
    have rf3:=oR7.frozen rfl 3
    have r4:=(show _ = some (Value.string { data:=#[] }) from oR7.cell rfl (j:=4) (by omega))
    have rf4:=oR7.frozen rfl 4
    go_wp2_with fail
    refine bodyPost_ret (v:=.tuple #[.agg #[Value.int .i64 0,Value.int .i64 0,Value.string { data:=#[] },Value.string { data:=#[] },Value.string { data:=#[] }],.bool false]) ?_ rfl ?_
    ·simp [results,Tryz.results18,go_sem,r0,r1,r2,r3,r4]
    ·rw [HQ.out,raOf_no HQ.out]
     exact ⟨rfl,(((((k7.setCell (p:=⟨w.heap.size,0,none⟩) (Nat.le_refl _) (Value.int .i64 0)).setCell (p:=⟨w.heap.size,1,none⟩) (Nat.le_refl _) (Value.int .i64 0)).setCell (p:=⟨w.heap.size,2,none⟩) (Nat.le_refl _) (Value.string { data:=#[] })).setCell (p:=⟨w.heap.size,3,none⟩) (Nat.le_refl _) (Value.string { data:=#[] })).setCell (p:=⟨w.heap.size,4,none⟩) (Nat.le_refl _) (Value.string { data:=#[] }))⟩
   ·have HQ : Hid (raOk s = true):=Lib.hid (HA.out.trans hq)
    have HV : Hid (raOf s = (kdOf p0,rmOf p1,(rhOf p2).1,(rhOf p2).2,p3)):=Lib.hid ((raOf_yes HQ.out).trans (by rw [HP.out.1,HP.out.2.1,HP.out.2.2.1,HP.out.2.2.2]))
    clear hq HA
    have r0:=(show _ = some (Value.int .i64 0) from oR7.cell rfl (j:=0) (by omega))
    have rf0:=oR7.frozen rfl 0
    have r1:=(show _ = some (Value.int .i64 0) from oR7.cell rfl (j:=1) (by omega))
    have rf1:=oR7.frozen rfl 1
    have r2:=(show _ = some (Value.string { data:=#[] }) from oR7.cell rfl (j:=2) (by omega))
    have rf2:=oR7.frozen rfl 2
    have r3:=(show _ = some (Value.string { data:=#[] }) from oR7.cell rfl (j:=3) (by omega))
    have rf3:=oR7.frozen rfl 3
    have r4:=(show _ = some (Value.string { data:=#[] }) from oR7.cell rfl (j:=4) (by omega))
    have rf4:=oR7.frozen rfl 4
    have a0:=(show _ = some (Value.int .i64 (kdOf p0)) from oN7.cell rfl (j:=0) (by omega))
    have a1:=(show _ = some (Value.int .i64 (rmOf p1)) from oN7.cell rfl (j:=1) (by omega))
    have a2:=(show _ = some (Value.string (rhOf p2).1) from oN7.cell rfl (j:=2) (by omega))
    have a3:=(show _ = some (Value.string (rhOf p2).2) from oN7.cell rfl (j:=3) (by omega))
    have a4:=(show _ = some (Value.string p3) from oN7.cell rfl (j:=4) (by omega))
    go_wp2_with fail
    refine bodyPost_ret (v:=.tuple #[.agg #[Value.int .i64 (kdOf p0),Value.int .i64 (rmOf p1),Value.string (rhOf p2).1,Value.string (rhOf p2).2,Value.string p3],.bool true]) ?_ rfl ?_
    ·simp [results,Tryz.results18,go_sem,r0,r1,r2,r3,r4]
    ·rw [HQ.out,HV.out]
     exact ⟨rfl,(((((k7.setCell (p:=⟨w.heap.size,0,none⟩) (Nat.le_refl _) (Value.int .i64 (kdOf p0))).setCell (p:=⟨w.heap.size,1,none⟩) (Nat.le_refl _) (Value.int .i64 (rmOf p1))).setCell (p:=⟨w.heap.size,2,none⟩) (Nat.le_refl _) (Value.string (rhOf p2).1)).setCell (p:=⟨w.heap.size,3,none⟩) (Nat.le_refl _) (Value.string (rhOf p2).2)).setCell (p:=⟨w.heap.size,4,none⟩) (Nat.le_refl _) (Value.string p3))⟩
 ·have HQ:=Lib.hid (raOk_len h4)
  have g4 : (((spL s).length : Int) != 4) = true:=by simp; omega
  clear hcell h4 HSP
  generalize ((w.alloc (.cells #[Value.int .i64 0,Value.int .i64 0,Value.string { data:=#[] },Value.string { data:=#[] },Value.string { data:=#[] }] 45)).alloc (.cells ((spL s).map Value.string).toArray 9)) = w1 at *
  have r0:=(show _ = some (Value.int .i64 0) from oR1.cell rfl (j:=0) (by omega))
  have rf0:=oR1.frozen rfl 0
  have r1:=(show _ = some (Value.int .i64 0) from oR1.cell rfl (j:=1) (by omega))
  have rf1:=oR1.frozen rfl 1
  have r2:=(show _ = some (Value.string { data:=#[] }) from oR1.cell rfl (j:=2) (by omega))
  have rf2:=oR1.frozen rfl 2
  have r3:=(show _ = some (Value.string { data:=#[] }) from oR1.cell rfl (j:=3) (by omega))
  have rf3:=oR1.frozen rfl 3
  have r4:=(show _ = some (Value.string { data:=#[] }) from oR1.cell rfl (j:=4) (by omega))
  have rf4:=oR1.frozen rfl 4
  go_wp2_with fail
  refine bodyPost_ret (v:=.tuple #[.agg #[Value.int .i64 0,Value.int .i64 0,Value.string { data:=#[] },Value.string { data:=#[] },Value.string { data:=#[] }],.bool false]) ?_ rfl ?_
  ·simp [results,Tryz.results18,go_sem,r0,r1,r2,r3,r4]
  ·rw [HQ.out,raOf_no HQ.out]
   exact ⟨rfl,(((((k1.setCell (p:=⟨w.heap.size,0,none⟩) (Nat.le_refl _) (Value.int .i64 0)).setCell (p:=⟨w.heap.size,1,none⟩) (Nat.le_refl _) (Value.int .i64 0)).setCell (p:=⟨w.heap.size,2,none⟩) (Nat.le_refl _) (Value.string { data:=#[] })).setCell (p:=⟨w.heap.size,3,none⟩) (Nat.le_refl _) (Value.string { data:=#[] })).setCell (p:=⟨w.heap.size,4,none⟩) (Nat.le_refl _) (Value.string { data:=#[] }))⟩
end Go.Proofs.YtfnmlffpnmmcdaaGreatDoor
