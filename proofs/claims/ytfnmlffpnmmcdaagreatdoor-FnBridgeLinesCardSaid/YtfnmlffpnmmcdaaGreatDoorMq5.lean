/- Parts of the proof, merged: MakeKit ListsItem ListsHandle Cb BlA ChB RiA WithoutItem FollowE WithoutHandle UfA. -/
import Derived.Test.YtfnmlffpnmmcdaaGreatDoorMq4
import Derived.Test.YtfnmlffpnmmcdaaGreatDoorMq1
import Derived.Test.YtfnmlffpnmmcdaaGreatDoorMq3
import Derived.Test.YtfnmlffpnmmcdaaGreatDoorMq2
import Derived.StillTailTactics
namespace Go.Proofs.YtfnmlffpnmmcdaaGreatDoor
set_option maxRecDepth 100000
open Go.RowKit
def StbB (s : Spec) : Prop:=∀ v w w',Below w.heap.size w w' → s v w → s v w'
def isS (x : Value) : Spec:=fun v _ => v = x
def tabB (N n : Nat) (cs : Array Value) : Spec:=fun v w => ∃ b,v = .slice (some ⟨b,0,none⟩) n n ∧ N ≤ b ∧ b < w.heap.size ∧ ∀ i,w.cell? ⟨b,i,none⟩ = cs[i]?
theorem isS_stb (x : Value) : StbB (isS x):=fun _ _ _ _ h => h
theorem tabB_stb (N n : Nat) (cs : Array Value) : StbB (tabB N n cs):=fun _ _ _ h ⟨b,h1,h2,h3,h4⟩ => ⟨b,h1,h2,Nat.lt_of_lt_of_le h3 h.size,fun i => by rw [h.cell (p:=⟨b,i,none⟩) h3]; exact h4 i⟩
theorem tabB_new {N n : Nat} {w : World} (h : N ≤ w.heap.size) (cs : Array Value) (e : TypeId) : tabB N n cs (.slice (some ⟨w.heap.size,0,none⟩) n n) (w.alloc (.cells cs e)) :=
 ⟨w.heap.size,rfl,h,by simp,fun i => by rw [World.cell?_alloc_at _ _ _ _ rfl]⟩
theorem stbB_nil : ∀ s ∈ ([] : List Spec),StbB s:=fun _ h => by cases h
theorem stbB_cons {s : Spec} {ss : List Spec} (h : StbB s) (h2 : ∀ s ∈ ss,StbB s) : ∀ t ∈ s :: ss,StbB t:=fun t ht => by
 rcases List.mem_cons.1 ht with rfl | ht
 ·exact h
 ·exact h2 t ht
theorem below_new (w : World) (o : Obj) : Below w.heap.size w (w.alloc o):=(Below.refl _ _).alloc (Nat.le_refl _) o
theorem wp_region_makes {P : Program} (n : Nat) {L : List Oper} (specs : List Spec) (cs : List Nat) {id : Nat} {Q : Exit → Act → World → Prop} {a : Act} {w : World}
    (hm : P.follows .mixedOrders = true) (hB : looseB (L.take n) (L.drop n) = true) (hds : ((L.take n).all fun o => match o.dst with | some d => decide (d < a.tmps.size) | none => false) = true)
    (hlen : specs.length = (L.take n).length) (hlc : cs.length = (L.take n).length) (hstab : ∀ s ∈ specs,StbB s)
    (hsteps : looseSteps (StepOK P (fun w w' => Below w.heap.size w w') (fun _ _ => True) 0 (0 + cs.sum) (L.take n) specs a w.drew) (L.take n) specs cs)
    (hend : ∀ w',Below w.heap.size w w' → looseAll w' (fun a' => wpList P L.toArray Q (L.drop n) a' w') (L.take n) specs a) : (Code.region id L.toArray true).wp P Q a w :=
 wp_region_loose (R:=fun w w' => Below w.heap.size w w') (G:=fun _ _ => True) n 0 specs cs hm hB hds hlen hlc (fun _ => Below.refl _ _) (fun _ _ _ h k => Below.app h k) hstab trivial hsteps
  (fun w' h _ => hend w' ⟨h.os,h.tape,h.output,h.size,h.block⟩)
theorem copyOfItem_any (A : Option Addr) (cap B : Nat) (xs : List ElItem) (w : World) (h : RdE 4 encItem w B A xs) (hl : xs.length ≤ 1048576) :
    Calls Tryz.prog 95 #[.slice A xs.length cap] w fun e w' => ∃ T cap',e = .returned (.slice T xs.length cap') ∧ OwnE 4 encItem 69 w' w.heap.size T cap' xs ∧ Below w.heap.size w w':=by
 go_enter Tryz.func95,Tryz.ntmps95
 go_wp2_with (at_builtin; refine wpList_app rfl (.const (.slice none 0 0)) (.tmp 3) _ rfl w.heap.size 69 _ 4 56 Tryz.underlying30 info_Item rfl (by omega) none A 0 0 xs.length cap B (cE 4 encItem ([] : List ElItem)) (cE 4 encItem xs) rfl rfl (Own.nil _ _ _ _ _) h (fun _ _ => encItem_one _ _) (by simp only [maxLen]; omega) (by omega) (Nat.le_refl _) ?_; intro T1 cap1 w1 hown1 hg1)
 go_ret;exact ⟨T1,cap1,by simp,OwnE.first hown1 rfl,grown_below hg1 (fun b hb => by cases hb) (Nat.le_refl _)⟩
theorem copyOfHandle_any (A : Option Addr) (cap B : Nat) (xs : List ElHandle) (w : World) (h : RdE 2 encHandle w B A xs) (hl : xs.length ≤ 1048576) :
    Calls Tryz.prog 96 #[.slice A xs.length cap] w fun e w' => ∃ T cap',e = .returned (.slice T xs.length cap') ∧ OwnE 2 encHandle 29 w' w.heap.size T cap' xs ∧ Below w.heap.size w w':=by
 go_enter Tryz.func96,Tryz.ntmps96
 go_wp2_with (at_builtin; refine wpList_app rfl (.const (.slice none 0 0)) (.tmp 3) _ rfl w.heap.size 29 _ 2 32 Tryz.underlying31 info_Handle rfl (by omega) none A 0 0 xs.length cap B (cE 2 encHandle ([] : List ElHandle)) (cE 2 encHandle xs) rfl rfl (Own.nil _ _ _ _ _) h (fun _ _ => encHandle_one _ _) (by simp only [maxLen]; omega) (by omega) (Nat.le_refl _) ?_; intro T1 cap1 w1 hown1 hg1)
 go_ret;exact ⟨T1,cap1,by simp,OwnE.first hown1 rfl,grown_below hg1 (fun b hb => by cases hb) (Nat.le_refl _)⟩
set_option maxHeartbeats 400000 in
theorem withAtHandle_any (A : Option Addr) (cap B : Nat) (xs : List ElHandle) (k : Nat) (x : ElHandle) (w : World) (h : RdE 2 encHandle w B A xs) (hB : B ≤ w.heap.size) (hS : Shp A xs.length cap) (hk : k ≤ xs.length) (hl : xs.length ≤ 1000000) :
    Calls Tryz.prog 106 #[.slice A xs.length cap,.int .i64 k,.agg #[.string (x.1),.string (x.2)]] w fun e w' => ∃ T cap',e = .returned (.slice T (xs.take k ++ [x] ++ xs.drop k).length cap') ∧ OwnE 2 encHandle 29 w' w.heap.size T cap' (xs.take k ++ [x] ++ xs.drop k) ∧ Below w.heap.size w w':=by
 have hmk:=mk_run0 (P:=Tryz.prog) 31 29 _ _ _ Tryz.underlying31 info_Handle ((xs.length : Int) + 1) (by omega) (by omega) (by omega);have hlk : (xs.take k).length = k:=by simp; omega
 have hlk1 : (xs.take k ++ [x]).length = k + 1:=by simp; omega
 have hld : (xs.drop k).length = xs.length - k:=by simp
 rw [show ((xs.length : Int) + 1).toNat = xs.length + 1 by omega] at hmk;have hb0 : Below w.heap.size w ((w.alloc (.cells #[.string (x.1),.string (x.2)] 29)).alloc (.cells (madeCells #[.string ByteArray.empty,.string ByteArray.empty] ((xs.length + 1) * 2)) 29)):=((Below.refl _ _).alloc (Nat.le_refl _) _).alloc (by simp) _;have hm : Own ((w.alloc (.cells #[.string (x.1),.string (x.2)] 29)).alloc (.cells (madeCells #[.string ByteArray.empty,.string ByteArray.empty] ((xs.length + 1) * 2)) 29)) (w.heap.size + 1) 29 2 (some ⟨w.heap.size + 1,0,none⟩) 0 (xs.length + 1) (cE 2 encHandle ([] : List ElHandle)):=by
  have:=Own.cap0 (w.alloc (.cells #[.string (x.1),.string (x.2)] 29)) 29 2 (xs.length + 1) (w.heap.size + 1) (madeCells #[.string ByteArray.empty,.string ByteArray.empty] ((xs.length + 1) * 2)) (cE 2 encHandle ([] : List ElHandle)) (by simp) (by simp only [maxLen]; omega) (size_madeCells _ _);simpa using this
 have hx0 : ∀ j,j < 2 → ((w.alloc (.cells #[.string (x.1),.string (x.2)] 29)).alloc (.cells (madeCells #[.string ByteArray.empty,.string ByteArray.empty] ((xs.length + 1) * 2)) 29)).cell? ⟨w.heap.size,j,none⟩ = some (encHandle x j):=fun j hj => by
  rw [(((Below.refl (w.heap.size + 1) (w.alloc (.cells #[.string (x.1),.string (x.2)] 29))).alloc (by simp) _).cell (p:=⟨w.heap.size,j,none⟩) (by show w.heap.size < w.heap.size + 1; omega)),World.cell?_alloc_at _ _ _ _ rfl];rcases (by omega : j = 0 ∨ j = 1) with rfl | rfl <;> rfl
 have HL:=Lib.hid hlk; have HL1:=Lib.hid hlk1; have HLD:=Lib.hid hld
 clear hlk hlk1 hld;rcases hS with ⟨rfl,h0,rfl⟩ | ⟨b,off,rfl,hcap,hmx⟩
 ·have hx : xs = []:=List.eq_nil_of_length_eq_zero h0
  subst hx;obtain rfl : k = 0:=by simpa using hk
  have hlk:=HL.out;have hlk1:=HL1.out;have hld:=HLD.out;have hmk1 : ∀ w : World,(Instr.makeSlice 31 (.int .i64 0) (.int .i64 1)).run Tryz.prog w = .ok (.slice (some ⟨w.heap.size,0,none⟩) 0 1) (w.alloc (.cells (madeCells #[.string ByteArray.empty,.string ByteArray.empty] 2) 29)):=fun w => hmk w
  clear hmk h;replace hb0 : Below w.heap.size w ((w.alloc (.cells #[.string (x.1),.string (x.2)] 29)).alloc (.cells (madeCells #[.string ByteArray.empty,.string ByteArray.empty] 2) 29)):=hb0;replace hm : Own ((w.alloc (.cells #[.string (x.1),.string (x.2)] 29)).alloc (.cells (madeCells #[.string ByteArray.empty,.string ByteArray.empty] 2) 29)) (w.heap.size + 1) 29 2 (some ⟨w.heap.size + 1,0,none⟩) 0 1 (cE 2 encHandle ([] : List ElHandle)):=hm;replace hx0 : ∀ j,j < 2 → ((w.alloc (.cells #[.string (x.1),.string (x.2)] 29)).alloc (.cells (madeCells #[.string ByteArray.empty,.string ByteArray.empty] 2) 29)).cell? ⟨w.heap.size,j,none⟩ = some (encHandle x j):=hx0;have hr1 : Rd ((w.alloc (.cells #[.string (x.1),.string (x.2)] 29)).alloc (.cells (madeCells #[.string ByteArray.empty,.string ByteArray.empty] 2) 29)) B 2 none 0 (cE 2 encHandle (([] : List ElHandle).take 0)):=fun h => absurd h (by omega)
  have hr2 : RdE 2 encHandle w B none (([] : List ElHandle).drop 0):=RdE.nil;go_enter Tryz.func106,Tryz.ntmps106
  go_wp2_with (first
   | (at_builtin; refine wpList_app rfl (.tmp 12) (.tmp 15) _ rfl (w.heap.size + 1) 29 _ 2 32 Tryz.underlying31 info_Handle rfl (by omega) (some ⟨w.heap.size + 1,0,none⟩) none 0 1 0 0 B (cE 2 encHandle ([] : List ElHandle)) (cE 2 encHandle (([] : List ElHandle).take 0)) rfl rfl hm hr1 (fun _ _ => encHandle_one _ _) (by simp only [maxLen]; omega) (by omega) (by simp) ?_; intro T1 cap1 w1 hown1 hg1; have hb1:=grown_below hg1 (fun b hb => (hm.lt hb).1) (by simp);have hown1':=OwnE.first hown1 hlk; have z1:=hb1.size; simp at z1; clear hown1 hg1; have hx1:=fun j hj => (hb1.cell (p:=⟨w.heap.size,j,none⟩) (by show w.heap.size < w.heap.size + 1; omega)).trans (hx0 j hj);have cx0 : w1.cell? ⟨w.heap.size,0,none⟩ = some (Value.string (x.1)):=hx1 0 (by omega);have cx1 : w1.cell? ⟨w.heap.size,1,none⟩ = some (Value.string (x.2)):=hx1 1 (by omega))
   | (at_builtin; refine wpList_app rfl (.tmp 17) (.tmp 19) _ rfl (w.heap.size + 1) 29 _ 2 32 Tryz.underlying31 info_Handle rfl (by omega) T1 (some ⟨w1.heap.size,0,none⟩) 0 cap1 1 1 (w1.heap.size + 1) (cE 2 encHandle (([] : List ElHandle).take 0)) (encHandle x) (by simp [go_sem]) rfl (Own.below (OwnE.own hown1' hlk) ((Below.refl _ _).alloc (Nat.le_refl _) _)) (rd_elem _ _ _ _ (fun j hj => by rcases (by omega : j = 0 ∨ j = 1) with rfl | rfl <;> rfl)) (fun _ _ => encHandle_one _ _) (by simp only [maxLen]; omega) (by omega) (by simp; omega) ?_; intro T2 cap2 w2 hown2 hg2; have hb2:=((Below.refl (w.heap.size + 1) w1).alloc (by omega) _).trans (grown_below hg2 (fun b hb => (Own.lt hown1' hb).1) (by simp; omega));have hown2':=OwnE.push (by omega) hlk hown2; have z2:=hb2.size; clear hown2 hg2)
   | (at_builtin; refine wpList_app rfl (.tmp 21) (.tmp 24) _ rfl (w.heap.size + 1) 29 _ 2 32 Tryz.underlying31 info_Handle rfl (by omega) T2 none 1 cap2 0 0 B (cE 2 encHandle (([] : List ElHandle).take 0 ++ [x])) (cE 2 encHandle (([] : List ElHandle).drop 0)) rfl (by simp [go_sem]) (OwnE.own hown2' hlk1) (RdE.len ((hr2.below ((hb0.trans (hb1.mono (by omega))).mono hB)).below (hb2.mono (by omega))) hld) (fun _ _ => encHandle_one _ _) (by simp only [maxLen]; omega) (by omega) (by omega) ?_; intro T3 cap3 w3 hown3 hg3))
  go_ret;have hown3':=OwnE.join (by omega) hlk1 hld hown3;have hb3:=grown_below hg3 (fun b hb => (Own.lt hown2' hb).1) (by omega);have hfin:=Own.more (base':=w.heap.size) hown3' (by omega);have hbfin:=((hb0.trans (hb1.mono (by omega))).trans (hb2.mono (by omega))).trans (hb3.mono (by omega))
  first
   | exact ⟨T3,cap3,by first | (simp; done) | (simp; omega),hfin,hbfin⟩
   | (rw [List.append_assoc] at hfin; exact ⟨T3,cap3,by first | (simp; done) | (simp; omega),hfin,hbfin⟩)
 ·unfold maxLen at hmx
  by_cases hck : cap = k
  ·have hlk:=HL.out
   have hlk1:=HL1.out;have hld:=HLD.out;have hck2:=hck.symm;subst hck2;have hkl : xs.length ≤ k:=by omega
   have hld0 : (xs.drop k).length = 0:=by rw [hld]; omega
   have hr1 : Rd ((w.alloc (.cells #[.string (x.1),.string (x.2)] 29)).alloc (.cells (madeCells #[.string ByteArray.empty,.string ByteArray.empty] ((xs.length + 1) * 2)) 29)) B 2 (some ⟨b,off,none⟩) k (cE 2 encHandle (xs.take k)):=RdE.len ((h.below (hb0.mono hB)).take k) hlk;have hr2 : RdE 2 encHandle w B (some ⟨b,off,none⟩) (xs.drop k):=fun hp => by rw [hld] at hp; omega
   go_enter Tryz.func106,Tryz.ntmps106
   go_wp2_with (first
    | (at_builtin; refine wpList_app rfl (.tmp 12) (.tmp 15) _ rfl (w.heap.size + 1) 29 _ 2 32 Tryz.underlying31 info_Handle rfl (by omega) (some ⟨w.heap.size + 1,0,none⟩) (some ⟨b,off,none⟩) 0 (xs.length + 1) k k B (cE 2 encHandle ([] : List ElHandle)) (cE 2 encHandle (xs.take k)) rfl rfl hm hr1 (fun _ _ => encHandle_one _ _) (by simp only [maxLen]; omega) (by omega) (by simp) ?_; intro T1 cap1 w1 hown1 hg1; have hb1:=grown_below hg1 (fun b hb => (hm.lt hb).1) (by simp);have hown1':=OwnE.first hown1 hlk; have z1:=hb1.size; simp at z1; clear hown1 hg1; have hx1:=fun j hj => (hb1.cell (p:=⟨w.heap.size,j,none⟩) (by show w.heap.size < w.heap.size + 1; omega)).trans (hx0 j hj);have cx0 : w1.cell? ⟨w.heap.size,0,none⟩ = some (Value.string (x.1)):=hx1 0 (by omega);have cx1 : w1.cell? ⟨w.heap.size,1,none⟩ = some (Value.string (x.2)):=hx1 1 (by omega))
    | (at_builtin; refine wpList_app rfl (.tmp 17) (.tmp 19) _ rfl (w.heap.size + 1) 29 _ 2 32 Tryz.underlying31 info_Handle rfl (by omega) T1 (some ⟨w1.heap.size,0,none⟩) k cap1 1 1 (w1.heap.size + 1) (cE 2 encHandle (xs.take k)) (encHandle x) (by simp [go_sem]) rfl (Own.below (OwnE.own hown1' hlk) ((Below.refl _ _).alloc (Nat.le_refl _) _)) (rd_elem _ _ _ _ (fun j hj => by rcases (by omega : j = 0 ∨ j = 1) with rfl | rfl <;> rfl)) (fun _ _ => encHandle_one _ _) (by simp only [maxLen]; omega) (by omega) (by simp; omega) ?_; intro T2 cap2 w2 hown2 hg2; have hb2:=((Below.refl (w.heap.size + 1) w1).alloc (by omega) _).trans (grown_below hg2 (fun b hb => (Own.lt hown1' hb).1) (by simp; omega));have hown2':=OwnE.push (by omega) hlk hown2; have z2:=hb2.size; clear hown2 hg2)
    | (at_builtin; refine wpList_app rfl (.tmp 21) (.tmp 24) _ rfl (w.heap.size + 1) 29 _ 2 32 Tryz.underlying31 info_Handle rfl (by omega) T2 (some ⟨b,off,none⟩) (k + 1) cap2 0 0 B (cE 2 encHandle (xs.take k ++ [x])) (cE 2 encHandle (xs.drop k)) rfl (by simp [go_sem]) (OwnE.own hown2' hlk1) (RdE.len ((hr2.below ((hb0.trans (hb1.mono (by omega))).mono hB)).below (hb2.mono (by omega))) hld0) (fun _ _ => encHandle_one _ _) (by simp only [maxLen]; omega) (by omega) (by omega) ?_; intro T3 cap3 w3 hown3 hg3))
   go_ret;have hown3':=OwnE.join (by omega) hlk1 hld0 hown3;have hb3:=grown_below hg3 (fun b hb => (Own.lt hown2' hb).1) (by omega);have hfin:=Own.more (base':=w.heap.size) hown3' (by omega);have hbfin:=((hb0.trans (hb1.mono (by omega))).trans (hb2.mono (by omega))).trans (hb3.mono (by omega))
   first
    | exact ⟨T3,cap3,by first | (simp; done) | (simp; omega),hfin,hbfin⟩
    | (rw [List.append_assoc] at hfin; exact ⟨T3,cap3,by first | (simp; done) | (simp; omega),hfin,hbfin⟩)
  ·have hlk:=HL.out
   have hlk1:=HL1.out;have hld:=HLD.out;have hr1 : Rd ((w.alloc (.cells #[.string (x.1),.string (x.2)] 29)).alloc (.cells (madeCells #[.string ByteArray.empty,.string ByteArray.empty] ((xs.length + 1) * 2)) 29)) B 2 (some ⟨b,off,none⟩) k (cE 2 encHandle (xs.take k)):=RdE.len ((h.below (hb0.mono hB)).take k) hlk;have hr2 : RdE 2 encHandle w B (some ⟨b,off + k * 2,none⟩) (xs.drop k):=RdE.drop h;go_enter Tryz.func106,Tryz.ntmps106
   go_wp2_with (first
    | (at_builtin; refine wpList_app rfl (.tmp 12) (.tmp 15) _ rfl (w.heap.size + 1) 29 _ 2 32 Tryz.underlying31 info_Handle rfl (by omega) (some ⟨w.heap.size + 1,0,none⟩) (some ⟨b,off,none⟩) 0 (xs.length + 1) k cap B (cE 2 encHandle ([] : List ElHandle)) (cE 2 encHandle (xs.take k)) rfl rfl hm hr1 (fun _ _ => encHandle_one _ _) (by simp only [maxLen]; omega) (by omega) (by simp) ?_; intro T1 cap1 w1 hown1 hg1; have hb1:=grown_below hg1 (fun b hb => (hm.lt hb).1) (by simp);have hown1':=OwnE.first hown1 hlk; have z1:=hb1.size; simp at z1; clear hown1 hg1; have hx1:=fun j hj => (hb1.cell (p:=⟨w.heap.size,j,none⟩) (by show w.heap.size < w.heap.size + 1; omega)).trans (hx0 j hj);have cx0 : w1.cell? ⟨w.heap.size,0,none⟩ = some (Value.string (x.1)):=hx1 0 (by omega);have cx1 : w1.cell? ⟨w.heap.size,1,none⟩ = some (Value.string (x.2)):=hx1 1 (by omega))
    | (at_builtin; refine wpList_app rfl (.tmp 17) (.tmp 19) _ rfl (w.heap.size + 1) 29 _ 2 32 Tryz.underlying31 info_Handle rfl (by omega) T1 (some ⟨w1.heap.size,0,none⟩) k cap1 1 1 (w1.heap.size + 1) (cE 2 encHandle (xs.take k)) (encHandle x) (by simp [go_sem]) rfl (Own.below (OwnE.own hown1' hlk) ((Below.refl _ _).alloc (Nat.le_refl _) _)) (rd_elem _ _ _ _ (fun j hj => by rcases (by omega : j = 0 ∨ j = 1) with rfl | rfl <;> rfl)) (fun _ _ => encHandle_one _ _) (by simp only [maxLen]; omega) (by omega) (by simp; omega) ?_; intro T2 cap2 w2 hown2 hg2; have hb2:=((Below.refl (w.heap.size + 1) w1).alloc (by omega) _).trans (grown_below hg2 (fun b hb => (Own.lt hown1' hb).1) (by simp; omega));have hown2':=OwnE.push (by omega) hlk hown2; have z2:=hb2.size; clear hown2 hg2)
    | (at_builtin; refine wpList_app rfl (.tmp 21) (.tmp 24) _ rfl (w.heap.size + 1) 29 _ 2 32 Tryz.underlying31 info_Handle rfl (by omega) T2 (some ⟨b,off + k * 2,none⟩) (k + 1) cap2 (xs.length - k) (cap - k) B (cE 2 encHandle (xs.take k ++ [x])) (cE 2 encHandle (xs.drop k)) rfl (by simp [go_sem]) (OwnE.own hown2' hlk1) (RdE.len ((hr2.below ((hb0.trans (hb1.mono (by omega))).mono hB)).below (hb2.mono (by omega))) hld) (fun _ _ => encHandle_one _ _) (by simp only [maxLen]; omega) (by omega) (by omega) ?_; intro T3 cap3 w3 hown3 hg3))
   go_ret;have hown3':=OwnE.join (by omega) hlk1 hld hown3;have hb3:=grown_below hg3 (fun b hb => (Own.lt hown2' hb).1) (by omega);have hfin:=Own.more (base':=w.heap.size) hown3' (by omega);have hbfin:=((hb0.trans (hb1.mono (by omega))).trans (hb2.mono (by omega))).trans (hb3.mono (by omega))
   first
    | exact ⟨T3,cap3,by first | (simp; done) | (simp; omega),hfin,hbfin⟩
    | (rw [List.append_assoc] at hfin; exact ⟨T3,cap3,by first | (simp; done) | (simp; omega),hfin,hbfin⟩)
def ownS (base e sz n : Nat) (f : Nat → Value) : Spec:=fun v w => ∃ A c,v = .slice A n c ∧ Own w base e sz A n c f
theorem ownS_stb (base e sz n : Nat) (f : Nat → Value) : StbB (ownS base e sz n f):=fun _ _ _ h ⟨A,c,h1,h2⟩ => ⟨A,c,h1,Own.below h2 h⟩
def empS (base e sz : Nat) (f : Nat → Value) : Spec:=fun v w => ∃ b,v = .slice (some ⟨b,0,none⟩) 0 0 ∧ Own w base e sz (some ⟨b,0,none⟩) 0 0 f
theorem empS_stb (base e sz : Nat) (f : Nat → Value) : StbB (empS base e sz f):=fun _ _ _ h ⟨b,h1,h2⟩ => ⟨b,h1,Own.below h2 h⟩
theorem Own.bare {w : World} {base e sz b : Nat} {f : Nat → Value} (h : Own w base e sz (some ⟨b,0,none⟩) 0 0 f) : w.heap[b]? = some (.cells #[] e (0,0)):=by
 rcases h.2 with ⟨h2,_⟩ | ⟨g,c,cur,hv,hg,hh,hn,hc,hs,ht⟩
 ·cases h2
 ·injection hv with h1 h2 h3
  injection h1 with h1
  injection h1 with h1 _ _
  subst h1; subst h3
  have : cur = #[]:=Array.eq_empty_of_size_eq_zero (by simpa using hs);rw [this] at hh;exact hh
section
variable {P : Program} {w : World}
theorem run_append0 (base : Nat) (t ty e : TypeId) (z : Value) (sz bytes : Nat) (ht : P.underlying t = some (.slice e)) (hinfo : (P.info? e).map (fun i => (i.zero,i.size,i.bytes)) = some (some z,sz,bytes))
    (hzs : z.cells.size = sz) (hsz : 0 < sz) (b : Nat) (A' : Option Addr) (m c B : Nat) (f g : Nat → Value) (hown : Own w base e sz (some ⟨b,0,none⟩) 0 0 f) (hr : Rd w B sz A' m g) (h1 : ∀ j,j < m * sz → (g j).oneCell' = true)
    (h63 : m ≤ maxLen) (hbytes : m * bytes ≤ 140737488355328) (hbase : base ≤ w.heap.size) :
    ∃ A1 cap1 w1,(Builtin.append_ #[t,t] ty #[.slice (some ⟨b,0,none⟩) 0 0,.slice A' m c]).run P w = .ok (.slice A1 m cap1) w1 ∧ Own w1 base e sz A1 m cap1 g ∧ Below w.heap.size w w1:=by
 by_cases hm : m = 0
 ·subst hm
  obtain ⟨i,hi,hz,hs,hb⟩:=info_parts hinfo;cases A' with
  | none =>
   exact ⟨_,_,w,run_append_none base t ty e i sz ht hi _ 0 _ hown c,Own.congr hown (fun j hj => absurd hj (by simp)),Below.refl _ _⟩
  | some ad =>
   obtain ⟨w2,hrun2,h2,h3⟩:=run_append_own_spare (P:=P) (w:=w) base t ty e i sz ht hi hs b 0 0 ((List.range (0 * sz)).map f) hown ad 0 c [] (by simp) (by simp) (by simp) (Nat.le_refl _);have ho : Own w2 base e sz (some ⟨b,0,none⟩) 0 0 g:=by
    unfold Own;have e0 : (List.range (0 * sz)).map g = (List.range (0 * sz)).map f ++ []:=by simp
    rw [e0];exact h2
   refine ⟨_,_,w2,hrun2,ho,⟨h3.os,h3.tape,h3.output,h3.size,fun k hk => ?_⟩⟩;by_cases hkb : k = b
   ·subst hkb
    rw [Own.bare ho,Own.bare hown]
   ·exact h3.block k hk (fun e => hkb (by injection e))
 ·obtain ⟨A1,cap1,w1,hrun,h2,h3⟩:=run_append (P:=P) (w:=w) base t ty e z sz bytes ht hinfo hzs hsz (some ⟨b,0,none⟩) A' 0 0 m c B f g hown hr h1 (by omega) (by rw [Nat.zero_add]; exact hbytes) hbase
  rw [Nat.zero_add] at hrun h2;refine ⟨A1,cap1,w1,hrun,Own.congr h2 (fun j hj => by rw [Nat.zero_mul,if_neg (Nat.not_lt_zero _),Nat.sub_zero]),?_⟩;obtain ⟨i,hi,hz,hs,hb⟩:=info_parts hinfo;subst hs; subst hb
  obtain ⟨b2,o2,rfl,hbB,hc⟩:=hr (by omega);have hnl : ((List.range (m * i.size)).map g).length = m * i.size:=by simp
  have hnews : ∀ j u,((List.range (m * i.size)).map g)[j]? = some u → w.cell? ((⟨b2,o2,none⟩ : Addr).add j) = some u:=fun j u hu => by
   have hj : j < m * i.size:=by
    have:=(List.getElem?_eq_some_iff.1 hu).1;simpa using this
   rw [range_map_get g hj] at hu;rw [Addr.add_lit,hc j hj,hu]
  have hgr:=run_append_grow (P:=P) w t ty e i z ht hi hz ⟨b,0,none⟩ 0 0 [] (by simp) (fun j u hu => by simp at hu) ⟨b2,o2,none⟩ m c _ hnl hnews (by omega) (by simp only [maxLen] at h63; omega) (growslice_fits (by omega) (by simpa using hbytes));rw [hrun] at hgr;injection hgr with _ e2
  rw [e2];exact (Below.refl _ _).drew.alloc (Nat.le_refl _) _
theorem loose_app0 {k : Nat} {o : Oper} {a : Act} (s x : Operand) (t : TypeId) (ho : o.op = .call { callee:=.builtin .append,args:=#[s,x],argTypes:=#[t,t] })
    (base : Nat) (e : TypeId) (z : Value) (sz bytes : Nat) (ht : P.underlying t = some (.slice e)) (hinfo : (P.info? e).map (fun i => (i.zero,i.size,i.bytes)) = some (some z,sz,bytes))
    (hzs : z.cells.size = sz) (hsz : 0 < sz) (b : Nat) (A' : Option Addr) (m c B : Nat) (f g : Nat → Value) (hs : a.eval s = .slice (some ⟨b,0,none⟩) 0 0) (hx : a.eval x = .slice A' m c) (hown : Own w base e sz (some ⟨b,0,none⟩) 0 0 f) (hr : Rd w B sz A' m g) (h1 : ∀ j,j < m * sz → (g j).oneCell' = true)
    (h63 : m ≤ maxLen) (hbytes : m * bytes ≤ 140737488355328) (hbase : base ≤ w.heap.size) :
    looseRun P (fun w w' => Below w.heap.size w w') (fun _ _ => True) k (ownS base e sz m g) o a w:=by
 obtain ⟨A1,cap1,w1,hrun,h2,h3⟩:=run_append0 (P:=P) (w:=w) base t o.type e z sz bytes ht hinfo hzs hsz b A' m c B f g hown hr h1 h63 hbytes hbase;unfold looseRun execOp;simp only [ho,resolve,invoke,builtin,Sem.run_bind,Sem.run_pure,Result.andThen_ok,List.map_toArray,List.map_cons,List.map_nil,hs,hx,hrun];exact ⟨h3,trivial,A1,cap1,rfl,h2⟩
end
theorem own_ne {w : World} {base base' e e' sz sz' n n' c c' : Nat} {A A' : Option Addr} {f f' : Nat → Value} (h : Own w base e sz A n c f) (h' : Own w base' e' sz' A' n' c' f') (hne : e ≠ e') : ∀ b,blk A = some b → blk A' ≠ some b:=fun b hb hb' => by
 rcases h.2 with ⟨h2,_⟩ | ⟨g,_,cur,hv,_,hh,_⟩
 ·injection h2 with h2; subst h2; cases hb
 ·rcases h'.2 with ⟨h2,_⟩ | ⟨g',_,cur',hv',_,hh',_⟩
  ·injection h2 with h2; subst h2; cases hb'
  ·injection hv with hv _ _; subst hv
   injection hv' with hv' _ _; subst hv'
   simp [blk] at hb hb';subst hb; subst hb'
   rw [hh] at hh';injection hh' with h1
   injection h1 with _ h2 _
   exact hne h2
def OutBr (who : ElHandle) (is : List ElItem) (fs : List ElHandle) (nx : Int) (w : World) (e : Ending) (w' : World) : Prop:=∃ (I' : Option Addr) (ci' : Nat) (F' : Option Addr) (cf' : Nat),e = .returned (.agg #[.string who.1,.string who.2,.slice I' is.length ci',.slice F' fs.length cf',.int .i64 nx]) ∧ OwnE 4 encItem 69 w' w.heap.size I' ci' is ∧ OwnE 2 encHandle 29 w' w.heap.size F' cf' fs ∧ Below w.heap.size w w'
theorem own_set' {w : World} {base e sz n cap : Nat} {A : Option Addr} {f : Nat → Value} (h : Own w base e sz A n cap f) (b o : Nat) (u : Value) (hb : b < base) : Own (w.setCell ⟨b,o,none⟩ u) base e sz A n cap f:=by
 refine ⟨h.1,?_⟩;rcases h.2 with h2 | ⟨g,c,cur,hv,hg,hh,r⟩
 ·exact .inl h2
 ·exact .inr ⟨g,c,cur,hv,hg,by rw [Below.heap_setCell _ _ _ _ (by show g ≠ b; omega)]; exact hh,r⟩
def zBr' : Nat → Value
 | 0 => Value.string { data:=#[] }
 | 1 => Value.string { data:=#[] }
 | 2 => Value.slice none 0 0
 | 3 => Value.slice none 0 0
 | _ => Value.int .i64 0
set_option maxHeartbeats 1600000 in
theorem copyBridge_any (who : ElHandle) (I : Option Addr) (ci : Nat) (is : List ElItem) (F : Option Addr) (cf : Nat) (fs : List ElHandle) (nx : Int) (w : World) (B : Nat) (hI : RdE 4 encItem w B I is) (hF : RdE 2 encHandle w B F fs) (hB : B ≤ w.heap.size) (hl : is.length ≤ 1048576) (hlf : fs.length ≤ 1048576) :
    Calls Tryz.prog 46 #[.agg #[.string who.1,.string who.2,.slice I is.length ci,.slice F fs.length cf,.int .i64 nx]] w (OutBr who is fs nx w):=by
 have zw : (w.alloc (.cells #[.string who.1,.string who.2,.slice I is.length ci,.slice F fs.length cf,.int .i64 nx] 33)).heap.size = w.heap.size + 1:=by simp
 have hbA : Below w.heap.size w ((w.alloc (.cells #[.string who.1,.string who.2,.slice I is.length ci,.slice F fs.length cf,.int .i64 nx] 33)).alloc (.cells #[.string { data:=#[] },.string { data:=#[] },.slice none 0 0,.slice none 0 0,.int .i64 0] 33)):=((Below.refl _ _).alloc (Nat.le_refl _) _).alloc (by simp) _;have zA : ((w.alloc (.cells #[.string who.1,.string who.2,.slice I is.length ci,.slice F fs.length cf,.int .i64 nx] 33)).alloc (.cells #[.string { data:=#[] },.string { data:=#[] },.slice none 0 0,.slice none 0 0,.int .i64 0] 33)).heap.size = w.heap.size + 2:=by simp
 have q0 : ((w.alloc (.cells #[.string who.1,.string who.2,.slice I is.length ci,.slice F fs.length cf,.int .i64 nx] 33)).alloc (.cells #[.string { data:=#[] },.string { data:=#[] },.slice none 0 0,.slice none 0 0,.int .i64 0] 33)).cell? ⟨w.heap.size,0,none⟩ = some (Value.string who.1):=by rw [World.cell?_alloc_past _ _ _ (by simp),World.cell?_alloc_at _ _ _ _ rfl]; rfl
 have q1 : ((w.alloc (.cells #[.string who.1,.string who.2,.slice I is.length ci,.slice F fs.length cf,.int .i64 nx] 33)).alloc (.cells #[.string { data:=#[] },.string { data:=#[] },.slice none 0 0,.slice none 0 0,.int .i64 0] 33)).cell? ⟨w.heap.size,1,none⟩ = some (Value.string who.2):=by rw [World.cell?_alloc_past _ _ _ (by simp),World.cell?_alloc_at _ _ _ _ rfl]; rfl
 have q2 : ((w.alloc (.cells #[.string who.1,.string who.2,.slice I is.length ci,.slice F fs.length cf,.int .i64 nx] 33)).alloc (.cells #[.string { data:=#[] },.string { data:=#[] },.slice none 0 0,.slice none 0 0,.int .i64 0] 33)).cell? ⟨w.heap.size,2,none⟩ = some (Value.slice I is.length ci):=by rw [World.cell?_alloc_past _ _ _ (by simp),World.cell?_alloc_at _ _ _ _ rfl]; rfl
 have q3 : ((w.alloc (.cells #[.string who.1,.string who.2,.slice I is.length ci,.slice F fs.length cf,.int .i64 nx] 33)).alloc (.cells #[.string { data:=#[] },.string { data:=#[] },.slice none 0 0,.slice none 0 0,.int .i64 0] 33)).cell? ⟨w.heap.size,3,none⟩ = some (Value.slice F fs.length cf):=by rw [World.cell?_alloc_past _ _ _ (by simp),World.cell?_alloc_at _ _ _ _ rfl]; rfl
 have q4 : ((w.alloc (.cells #[.string who.1,.string who.2,.slice I is.length ci,.slice F fs.length cf,.int .i64 nx] 33)).alloc (.cells #[.string { data:=#[] },.string { data:=#[] },.slice none 0 0,.slice none 0 0,.int .i64 0] 33)).cell? ⟨w.heap.size,4,none⟩ = some (Value.int .i64 nx):=by rw [World.cell?_alloc_past _ _ _ (by simp),World.cell?_alloc_at _ _ _ _ rfl]; rfl
 have oR : Own ((w.alloc (.cells #[.string who.1,.string who.2,.slice I is.length ci,.slice F fs.length cf,.int .i64 nx] 33)).alloc (.cells #[.string { data:=#[] },.string { data:=#[] },.slice none 0 0,.slice none 0 0,.int .i64 0] 33)) (w.heap.size + 1) 33 5 (some ⟨w.heap.size + 1,0,none⟩) 1 1 zBr':=by
  have:=Own.lit (w.alloc (.cells #[.string who.1,.string who.2,.slice I is.length ci,.slice F fs.length cf,.int .i64 nx] 33)) 33 5 1 #[Value.string { data:=#[] },Value.string { data:=#[] },Value.slice none 0 0,Value.slice none 0 0,Value.int .i64 0] zBr' (by simp only [maxLen]; omega) rfl;rw [zw] at this;exact this
 clear zw;go_enter Tryz.func46,Tryz.ntmps46
 go_wp2_with fail
 generalize ((w.alloc (.cells #[.string who.1,.string who.2,.slice I is.length ci,.slice F fs.length cf,.int .i64 nx] 33)).alloc (.cells #[.string { data:=#[] },.string { data:=#[] },.slice none 0 0,.slice none 0 0,.int .i64 0] 33)) = wA at *
 refine wp_region_makes 10 [(isS (.pointer (some ⟨w.heap.size,0,none⟩))),(isS (.agg #[.string who.1,.string who.2])),(isS (.pointer (some ⟨w.heap.size,2,none⟩))),(isS (.slice I is.length ci)),(ownS (w.heap.size + 2) 69 4 is.length (cE 4 encItem is)),(isS (.pointer (some ⟨w.heap.size,3,none⟩))),(isS (.slice F fs.length cf)),(ownS (w.heap.size + 2) 29 2 fs.length (cE 2 encHandle fs)),(isS (.pointer (some ⟨w.heap.size,4,none⟩))),(isS (.int .i64 nx))] [0,0,0,0,0,0,0,0,0,0] (by kernel_rfl) (by kernel_rfl) (by rfl) (by rfl) (by rfl) ?_ ?_ ?_
 ·repeat (first | exact stbB_nil | refine stbB_cons (by first | exact isS_stb _ | exact ownS_stb _ _ _ _ _ | exact empS_stb _ _ _ _) ?_)
 ·simp only [List.take_succ_cons,List.take_zero]
  refine looseSteps_cons (fun k a' w' hk0' hk1' hR hG hkp hd => ?_) ?_
  ·have hR0 : Below wA.drew.heap.size wA.drew w':=hR
   have hRb : Below wA.heap.size wA w':=⟨hR0.os,hR0.tape,hR0.output,hR0.size,hR0.block⟩;have k1' : a'.tmps.getD 1 undef = .pointer (some ⟨w.heap.size,0,none⟩):=hkp 1 (by rfl);unfold looseRun;go_simp;exact ⟨Below.refl _ _,trivial,rfl⟩
  refine looseSteps_cons (fun k a' w' hk0' hk1' hR hG hkp hd => ?_) ?_
  ·have hR0 : Below wA.drew.heap.size wA.drew w':=hR
   have hRb : Below wA.heap.size wA w':=⟨hR0.os,hR0.tape,hR0.output,hR0.size,hR0.block⟩;have e1:=hd.1 rfl;have e1' : a'.tmps.getD 3 undef = _:=e1;have e1q:=e1';rw [Array.getD_eq_getD_getElem?] at e1q;have rr0:=(hRb.cell (p:=⟨w.heap.size,0,none⟩) (by show w.heap.size < _; omega)).trans q0;have rr1:=(hRb.cell (p:=⟨w.heap.size,1,none⟩) (by show w.heap.size < _; omega)).trans q1;unfold looseRun;go_simp;exact ⟨Below.refl _ _,trivial,rfl⟩
  refine looseSteps_cons (fun k a' w' hk0' hk1' hR hG hkp hd => ?_) ?_
  ·have hR0 : Below wA.drew.heap.size wA.drew w':=hR
   have hRb : Below wA.heap.size wA w':=⟨hR0.os,hR0.tape,hR0.output,hR0.size,hR0.block⟩;have k1' : a'.tmps.getD 1 undef = .pointer (some ⟨w.heap.size,0,none⟩):=hkp 1 (by rfl);unfold looseRun;go_simp;exact ⟨Below.refl _ _,trivial,rfl⟩
  refine looseSteps_cons (fun k a' w' hk0' hk1' hR hG hkp hd => ?_) ?_
  ·have hR0 : Below wA.drew.heap.size wA.drew w':=hR
   have hRb : Below wA.heap.size wA w':=⟨hR0.os,hR0.tape,hR0.output,hR0.size,hR0.block⟩;have e1:=hd.1 rfl;have e1' : a'.tmps.getD 5 undef = _:=e1;have e1q:=e1';rw [Array.getD_eq_getD_getElem?] at e1q;have rr2:=(hRb.cell (p:=⟨w.heap.size,2,none⟩) (by show w.heap.size < _; omega)).trans q2;unfold looseRun;go_simp;exact ⟨Below.refl _ _,trivial,rfl⟩
  refine looseSteps_cons (fun k a' w' hk0' hk1' hR hG hkp hd => ?_) ?_
  ·have hR0 : Below wA.drew.heap.size wA.drew w':=hR
   have hRb : Below wA.heap.size wA w':=⟨hR0.os,hR0.tape,hR0.output,hR0.size,hR0.block⟩;have e1:=hd.1 rfl;have e1' : a'.tmps.getD 6 undef = _:=e1;have e1q:=e1';rw [Array.getD_eq_getD_getElem?] at e1q;unfold looseRun;go_simp;refine ⟨rfl,(copyOfItem_any I ci B is _ (hI.below ((hbA.trans (hRb.mono (by omega))).mono hB)) hl).mono ?_⟩;rintro e w2 ⟨T',c',rfl,o,hb⟩;exact ⟨_,rfl,hb,trivial,_,_,rfl,Own.more o (by have:=hRb.size; omega)⟩
  refine looseSteps_cons (fun k a' w' hk0' hk1' hR hG hkp hd => ?_) ?_
  ·have hR0 : Below wA.drew.heap.size wA.drew w':=hR
   have hRb : Below wA.heap.size wA w':=⟨hR0.os,hR0.tape,hR0.output,hR0.size,hR0.block⟩;have k1' : a'.tmps.getD 1 undef = .pointer (some ⟨w.heap.size,0,none⟩):=hkp 1 (by rfl);unfold looseRun;go_simp;exact ⟨Below.refl _ _,trivial,rfl⟩
  refine looseSteps_cons (fun k a' w' hk0' hk1' hR hG hkp hd => ?_) ?_
  ·have hR0 : Below wA.drew.heap.size wA.drew w':=hR
   have hRb : Below wA.heap.size wA w':=⟨hR0.os,hR0.tape,hR0.output,hR0.size,hR0.block⟩;have e1:=hd.1 rfl;have e1' : a'.tmps.getD 8 undef = _:=e1;have e1q:=e1';rw [Array.getD_eq_getD_getElem?] at e1q;have rr3:=(hRb.cell (p:=⟨w.heap.size,3,none⟩) (by show w.heap.size < _; omega)).trans q3;unfold looseRun;go_simp;exact ⟨Below.refl _ _,trivial,rfl⟩
  refine looseSteps_cons (fun k a' w' hk0' hk1' hR hG hkp hd => ?_) ?_
  ·have hR0 : Below wA.drew.heap.size wA.drew w':=hR
   have hRb : Below wA.heap.size wA w':=⟨hR0.os,hR0.tape,hR0.output,hR0.size,hR0.block⟩;have e1:=hd.1 rfl;have e1' : a'.tmps.getD 9 undef = _:=e1;have e1q:=e1';rw [Array.getD_eq_getD_getElem?] at e1q;unfold looseRun;go_simp;refine ⟨rfl,(copyOfHandle_any F cf B fs _ (hF.below ((hbA.trans (hRb.mono (by omega))).mono hB)) hlf).mono ?_⟩;rintro e w2 ⟨T',c',rfl,o,hb⟩;exact ⟨_,rfl,hb,trivial,_,_,rfl,Own.more o (by have:=hRb.size; omega)⟩
  refine looseSteps_cons (fun k a' w' hk0' hk1' hR hG hkp hd => ?_) ?_
  ·have hR0 : Below wA.drew.heap.size wA.drew w':=hR
   have hRb : Below wA.heap.size wA w':=⟨hR0.os,hR0.tape,hR0.output,hR0.size,hR0.block⟩;have k1' : a'.tmps.getD 1 undef = .pointer (some ⟨w.heap.size,0,none⟩):=hkp 1 (by rfl);unfold looseRun;go_simp;exact ⟨Below.refl _ _,trivial,rfl⟩
  refine looseSteps_cons (fun k a' w' hk0' hk1' hR hG hkp hd => ?_) ?_
  ·have hR0 : Below wA.drew.heap.size wA.drew w':=hR
   have hRb : Below wA.heap.size wA w':=⟨hR0.os,hR0.tape,hR0.output,hR0.size,hR0.block⟩;have e1:=hd.1 rfl;have e1' : a'.tmps.getD 11 undef = _:=e1;have e1q:=e1';rw [Array.getD_eq_getD_getElem?] at e1q;have rr4:=(hRb.cell (p:=⟨w.heap.size,4,none⟩) (by show w.heap.size < _; omega)).trans q4;unfold looseRun;go_simp;exact ⟨Below.refl _ _,trivial,rfl⟩
  exact looseSteps_nil
 ·intro w3 hb3
  simp only [List.take_succ_cons,List.take_zero,List.drop_succ_cons,List.drop_zero];refine looseAll_cons fun v3 h3 => ?_
  refine looseAll_cons fun v4 h4 => ?_
  refine looseAll_cons fun v5 h5 => ?_
  refine looseAll_cons fun v6 h6 => ?_
  refine looseAll_cons fun v7 h7 => ?_
  refine looseAll_cons fun v8 h8 => ?_
  refine looseAll_cons fun v9 h9 => ?_
  refine looseAll_cons fun v10 h10 => ?_
  refine looseAll_cons fun v11 h11 => ?_
  refine looseAll_cons fun v12 h12 => ?_
  refine looseAll_nil ?_;have e1 : v4 = .agg #[.string who.1,.string who.2]:=h4;have e2 : v12 = .int .i64 nx:=h12;subst e1 e2;obtain ⟨I',ci',rfl,oI⟩:=h7;obtain ⟨F',cf',rfl,oF⟩:=h10;clear h3 h4 h5 h6 h8 h9 h11 h12;have oR3:=Own.below oR hb3;have k3:=hbA.trans (hb3.mono hbA.size);have r0:=oR3.cell rfl (j:=0) (by omega);have rf0:=oR3.frozen rfl 0;have r1:=oR3.cell rfl (j:=1) (by omega);have rf1:=oR3.frozen rfl 1;have r2:=oR3.cell rfl (j:=2) (by omega);have rf2:=oR3.frozen rfl 2;have r3:=oR3.cell rfl (j:=3) (by omega);have rf3:=oR3.frozen rfl 3;have r4:=oR3.cell rfl (j:=4) (by omega);have rf4:=oR3.frozen rfl 4;simp only [zBr'] at r0 r1 r2 r3 r4;have F1:=(own_set' (own_set' (own_set' (own_set' (own_set' oI (w.heap.size + 1) 0 (Value.string who.1) (by omega)) (w.heap.size + 1) 1 (Value.string who.2) (by omega)) (w.heap.size + 1) 2 (Value.slice I' is.length ci') (by omega)) (w.heap.size + 1) 3 (Value.slice F' fs.length cf') (by omega)) (w.heap.size + 1) 4 (Value.int .i64 nx) (by omega));have F2:=(own_set' (own_set' (own_set' (own_set' (own_set' oF (w.heap.size + 1) 0 (Value.string who.1) (by omega)) (w.heap.size + 1) 1 (Value.string who.2) (by omega)) (w.heap.size + 1) 2 (Value.slice I' is.length ci') (by omega)) (w.heap.size + 1) 3 (Value.slice F' fs.length cf') (by omega)) (w.heap.size + 1) 4 (Value.int .i64 nx) (by omega));have K3:=(((((k3.setCell (p:=⟨w.heap.size + 1,0,none⟩) (by show w.heap.size ≤ w.heap.size + 1; omega) (Value.string who.1)).setCell (p:=⟨w.heap.size + 1,1,none⟩) (by show w.heap.size ≤ w.heap.size + 1; omega) (Value.string who.2)).setCell (p:=⟨w.heap.size + 1,2,none⟩) (by show w.heap.size ≤ w.heap.size + 1; omega) (Value.slice I' is.length ci')).setCell (p:=⟨w.heap.size + 1,3,none⟩) (by show w.heap.size ≤ w.heap.size + 1; omega) (Value.slice F' fs.length cf')).setCell (p:=⟨w.heap.size + 1,4,none⟩) (by show w.heap.size ≤ w.heap.size + 1; omega) (Value.int .i64 nx));clear q0 q1 q2 q3 q4 oR oI oF;simp only [Act.put,List.setIfInBounds_toArray,List.set_cons_zero,List.set_cons_succ]
  go_wp2_with fail
  exact bodyPost_ret (v:=.agg #[.string who.1,.string who.2,.slice I' is.length ci',.slice F' fs.length cf',.int .i64 nx]) (by simp [results,Tryz.results46,go_sem,r0,r1,r2,r3,r4]) rfl ⟨I',ci',F',cf',rfl,Own.more F1 (by omega),Own.more F2 (by omega),K3⟩
set_option maxHeartbeats 1600000 in
theorem l34Copy_any (who : ElHandle) (I : Option Addr) (ci : Nat) (is : List ElItem) (F : Option Addr) (cf : Nat) (fs : List ElHandle) (nx : Int) (w : World) (B : Nat) (hI : RdE 4 encItem w B I is) (hF : RdE 2 encHandle w B F fs) (hB : B ≤ w.heap.size) (hl : is.length ≤ 1048576) (hlf : fs.length ≤ 1048576) :
    Calls Tryz.prog 34 #[.agg #[.string who.1,.string who.2,.slice I is.length ci,.slice F fs.length cf,.int .i64 nx]] w (OutBr who is fs nx w):=by
 have zw : (w.alloc (.cells #[.string who.1,.string who.2,.slice I is.length ci,.slice F fs.length cf,.int .i64 nx] 33)).heap.size = w.heap.size + 1:=by simp
 have hbA : Below w.heap.size w ((w.alloc (.cells #[.string who.1,.string who.2,.slice I is.length ci,.slice F fs.length cf,.int .i64 nx] 33)).alloc (.cells #[.string { data:=#[] },.string { data:=#[] },.slice none 0 0,.slice none 0 0,.int .i64 0] 33)):=((Below.refl _ _).alloc (Nat.le_refl _) _).alloc (by simp) _;have zA : ((w.alloc (.cells #[.string who.1,.string who.2,.slice I is.length ci,.slice F fs.length cf,.int .i64 nx] 33)).alloc (.cells #[.string { data:=#[] },.string { data:=#[] },.slice none 0 0,.slice none 0 0,.int .i64 0] 33)).heap.size = w.heap.size + 2:=by simp
 have q0 : ((w.alloc (.cells #[.string who.1,.string who.2,.slice I is.length ci,.slice F fs.length cf,.int .i64 nx] 33)).alloc (.cells #[.string { data:=#[] },.string { data:=#[] },.slice none 0 0,.slice none 0 0,.int .i64 0] 33)).cell? ⟨w.heap.size,0,none⟩ = some (Value.string who.1):=by rw [World.cell?_alloc_past _ _ _ (by simp),World.cell?_alloc_at _ _ _ _ rfl]; rfl
 have q1 : ((w.alloc (.cells #[.string who.1,.string who.2,.slice I is.length ci,.slice F fs.length cf,.int .i64 nx] 33)).alloc (.cells #[.string { data:=#[] },.string { data:=#[] },.slice none 0 0,.slice none 0 0,.int .i64 0] 33)).cell? ⟨w.heap.size,1,none⟩ = some (Value.string who.2):=by rw [World.cell?_alloc_past _ _ _ (by simp),World.cell?_alloc_at _ _ _ _ rfl]; rfl
 have q2 : ((w.alloc (.cells #[.string who.1,.string who.2,.slice I is.length ci,.slice F fs.length cf,.int .i64 nx] 33)).alloc (.cells #[.string { data:=#[] },.string { data:=#[] },.slice none 0 0,.slice none 0 0,.int .i64 0] 33)).cell? ⟨w.heap.size,2,none⟩ = some (Value.slice I is.length ci):=by rw [World.cell?_alloc_past _ _ _ (by simp),World.cell?_alloc_at _ _ _ _ rfl]; rfl
 have q3 : ((w.alloc (.cells #[.string who.1,.string who.2,.slice I is.length ci,.slice F fs.length cf,.int .i64 nx] 33)).alloc (.cells #[.string { data:=#[] },.string { data:=#[] },.slice none 0 0,.slice none 0 0,.int .i64 0] 33)).cell? ⟨w.heap.size,3,none⟩ = some (Value.slice F fs.length cf):=by rw [World.cell?_alloc_past _ _ _ (by simp),World.cell?_alloc_at _ _ _ _ rfl]; rfl
 have q4 : ((w.alloc (.cells #[.string who.1,.string who.2,.slice I is.length ci,.slice F fs.length cf,.int .i64 nx] 33)).alloc (.cells #[.string { data:=#[] },.string { data:=#[] },.slice none 0 0,.slice none 0 0,.int .i64 0] 33)).cell? ⟨w.heap.size,4,none⟩ = some (Value.int .i64 nx):=by rw [World.cell?_alloc_past _ _ _ (by simp),World.cell?_alloc_at _ _ _ _ rfl]; rfl
 have oR : Own ((w.alloc (.cells #[.string who.1,.string who.2,.slice I is.length ci,.slice F fs.length cf,.int .i64 nx] 33)).alloc (.cells #[.string { data:=#[] },.string { data:=#[] },.slice none 0 0,.slice none 0 0,.int .i64 0] 33)) (w.heap.size + 1) 33 5 (some ⟨w.heap.size + 1,0,none⟩) 1 1 zBr':=by
  have:=Own.lit (w.alloc (.cells #[.string who.1,.string who.2,.slice I is.length ci,.slice F fs.length cf,.int .i64 nx] 33)) 33 5 1 #[Value.string { data:=#[] },Value.string { data:=#[] },Value.slice none 0 0,Value.slice none 0 0,Value.int .i64 0] zBr' (by simp only [maxLen]; omega) rfl;rw [zw] at this;exact this
 clear zw;go_enter Tryz.func34,Tryz.ntmps34
 go_wp2_with fail
 generalize ((w.alloc (.cells #[.string who.1,.string who.2,.slice I is.length ci,.slice F fs.length cf,.int .i64 nx] 33)).alloc (.cells #[.string { data:=#[] },.string { data:=#[] },.slice none 0 0,.slice none 0 0,.int .i64 0] 33)) = wA at *
 refine wp_region_makes 12 [(isS (.pointer (some ⟨w.heap.size,0,none⟩))),(isS (.agg #[.string who.1,.string who.2])),(empS (w.heap.size + 2) 69 4 (cE 4 encItem ([] : List ElItem))),(isS (.pointer (some ⟨w.heap.size,2,none⟩))),(isS (.slice I is.length ci)),(ownS (w.heap.size + 2) 69 4 is.length (cE 4 encItem is)),(empS (w.heap.size + 2) 29 2 (cE 2 encHandle ([] : List ElHandle))),(isS (.pointer (some ⟨w.heap.size,3,none⟩))),(isS (.slice F fs.length cf)),(ownS (w.heap.size + 2) 29 2 fs.length (cE 2 encHandle fs)),(isS (.pointer (some ⟨w.heap.size,4,none⟩))),(isS (.int .i64 nx))] [0,0,0,0,0,0,0,0,0,0,0,0] (by kernel_rfl) (by kernel_rfl) (by rfl) (by rfl) (by rfl) ?_ ?_ ?_
 ·repeat (first | exact stbB_nil | refine stbB_cons (by first | exact isS_stb _ | exact ownS_stb _ _ _ _ _ | exact empS_stb _ _ _ _) ?_)
 ·simp only [List.take_succ_cons,List.take_zero]
  refine looseSteps_cons (fun k a' w' hk0' hk1' hR hG hkp hd => ?_) ?_
  ·have hR0 : Below wA.drew.heap.size wA.drew w':=hR
   have hRb : Below wA.heap.size wA w':=⟨hR0.os,hR0.tape,hR0.output,hR0.size,hR0.block⟩;have k1' : a'.tmps.getD 1 undef = .pointer (some ⟨w.heap.size,0,none⟩):=hkp 1 (by rfl);unfold looseRun;go_simp;exact ⟨Below.refl _ _,trivial,rfl⟩
  refine looseSteps_cons (fun k a' w' hk0' hk1' hR hG hkp hd => ?_) ?_
  ·have hR0 : Below wA.drew.heap.size wA.drew w':=hR
   have hRb : Below wA.heap.size wA w':=⟨hR0.os,hR0.tape,hR0.output,hR0.size,hR0.block⟩;have e1:=hd.1 rfl;have e1' : a'.tmps.getD 3 undef = _:=e1;have e1q:=e1';rw [Array.getD_eq_getD_getElem?] at e1q;have rr0:=(hRb.cell (p:=⟨w.heap.size,0,none⟩) (by show w.heap.size < _; omega)).trans q0;have rr1:=(hRb.cell (p:=⟨w.heap.size,1,none⟩) (by show w.heap.size < _; omega)).trans q1;unfold looseRun;go_simp;exact ⟨Below.refl _ _,trivial,rfl⟩
  refine looseSteps_cons (fun k a' w' hk0' hk1' hR hG hkp hd => ?_) ?_
  ·have hR0 : Below wA.drew.heap.size wA.drew w':=hR
   have hRb : Below wA.heap.size wA w':=⟨hR0.os,hR0.tape,hR0.output,hR0.size,hR0.block⟩;unfold looseRun;go_simp;exact ⟨below_new _ _,trivial,_,rfl,Own.more (Own.lit _ 69 4 0 #[] (cE 4 encItem ([] : List ElItem)) (Nat.zero_le _) rfl) (by have:=hRb.size; omega)⟩
  refine looseSteps_cons (fun k a' w' hk0' hk1' hR hG hkp hd => ?_) ?_
  ·have hR0 : Below wA.drew.heap.size wA.drew w':=hR
   have hRb : Below wA.heap.size wA w':=⟨hR0.os,hR0.tape,hR0.output,hR0.size,hR0.block⟩;have k1' : a'.tmps.getD 1 undef = .pointer (some ⟨w.heap.size,0,none⟩):=hkp 1 (by rfl);unfold looseRun;go_simp;exact ⟨Below.refl _ _,trivial,rfl⟩
  refine looseSteps_cons (fun k a' w' hk0' hk1' hR hG hkp hd => ?_) ?_
  ·have hR0 : Below wA.drew.heap.size wA.drew w':=hR
   have hRb : Below wA.heap.size wA w':=⟨hR0.os,hR0.tape,hR0.output,hR0.size,hR0.block⟩;have e1:=hd.1 rfl;have e1' : a'.tmps.getD 6 undef = _:=e1;have e1q:=e1';rw [Array.getD_eq_getD_getElem?] at e1q;have rr2:=(hRb.cell (p:=⟨w.heap.size,2,none⟩) (by show w.heap.size < _; omega)).trans q2;unfold looseRun;go_simp;exact ⟨Below.refl _ _,trivial,rfl⟩
  refine looseSteps_cons (fun k a' w' hk0' hk1' hR hG hkp hd => ?_) ?_
  ·have hR0 : Below wA.drew.heap.size wA.drew w':=hR
   have hRb : Below wA.heap.size wA w':=⟨hR0.os,hR0.tape,hR0.output,hR0.size,hR0.block⟩;obtain ⟨b0,e1,o1⟩:=hd.1 rfl;have e2:=hd.2.1 rfl;have e1' : a'.tmps.getD 5 undef = _:=e1;have e2' : a'.tmps.getD 7 undef = _:=e2;exact loose_app0 (.tmp 5) (.tmp 7) _ rfl (w.heap.size + 2) 69 _ 4 56 Tryz.underlying30 info_Item rfl (by omega) b0 I is.length ci B (cE 4 encItem ([] : List ElItem)) (cE 4 encItem is) e1' e2' o1 (hI.below ((hbA.trans (hRb.mono (by omega))).mono hB)) (fun _ _ => encItem_one _ _) (by simp only [maxLen]; omega) (by omega) (by have:=hRb.size; omega)
  refine looseSteps_cons (fun k a' w' hk0' hk1' hR hG hkp hd => ?_) ?_
  ·have hR0 : Below wA.drew.heap.size wA.drew w':=hR
   have hRb : Below wA.heap.size wA w':=⟨hR0.os,hR0.tape,hR0.output,hR0.size,hR0.block⟩;unfold looseRun;go_simp;exact ⟨below_new _ _,trivial,_,rfl,Own.more (Own.lit _ 29 2 0 #[] (cE 2 encHandle ([] : List ElHandle)) (Nat.zero_le _) rfl) (by have:=hRb.size; omega)⟩
  refine looseSteps_cons (fun k a' w' hk0' hk1' hR hG hkp hd => ?_) ?_
  ·have hR0 : Below wA.drew.heap.size wA.drew w':=hR
   have hRb : Below wA.heap.size wA w':=⟨hR0.os,hR0.tape,hR0.output,hR0.size,hR0.block⟩;have k1' : a'.tmps.getD 1 undef = .pointer (some ⟨w.heap.size,0,none⟩):=hkp 1 (by rfl);unfold looseRun;go_simp;exact ⟨Below.refl _ _,trivial,rfl⟩
  refine looseSteps_cons (fun k a' w' hk0' hk1' hR hG hkp hd => ?_) ?_
  ·have hR0 : Below wA.drew.heap.size wA.drew w':=hR
   have hRb : Below wA.heap.size wA w':=⟨hR0.os,hR0.tape,hR0.output,hR0.size,hR0.block⟩;have e1:=hd.1 rfl;have e1' : a'.tmps.getD 10 undef = _:=e1;have e1q:=e1';rw [Array.getD_eq_getD_getElem?] at e1q;have rr3:=(hRb.cell (p:=⟨w.heap.size,3,none⟩) (by show w.heap.size < _; omega)).trans q3;unfold looseRun;go_simp;exact ⟨Below.refl _ _,trivial,rfl⟩
  refine looseSteps_cons (fun k a' w' hk0' hk1' hR hG hkp hd => ?_) ?_
  ·have hR0 : Below wA.drew.heap.size wA.drew w':=hR
   have hRb : Below wA.heap.size wA w':=⟨hR0.os,hR0.tape,hR0.output,hR0.size,hR0.block⟩;obtain ⟨b0,e1,o1⟩:=hd.1 rfl;have e2:=hd.2.1 rfl;have e1' : a'.tmps.getD 9 undef = _:=e1;have e2' : a'.tmps.getD 11 undef = _:=e2;exact loose_app0 (.tmp 9) (.tmp 11) _ rfl (w.heap.size + 2) 29 _ 2 32 Tryz.underlying31 info_Handle rfl (by omega) b0 F fs.length cf B (cE 2 encHandle ([] : List ElHandle)) (cE 2 encHandle fs) e1' e2' o1 (hF.below ((hbA.trans (hRb.mono (by omega))).mono hB)) (fun _ _ => encHandle_one _ _) (by simp only [maxLen]; omega) (by omega) (by have:=hRb.size; omega)
  refine looseSteps_cons (fun k a' w' hk0' hk1' hR hG hkp hd => ?_) ?_
  ·have hR0 : Below wA.drew.heap.size wA.drew w':=hR
   have hRb : Below wA.heap.size wA w':=⟨hR0.os,hR0.tape,hR0.output,hR0.size,hR0.block⟩;have k1' : a'.tmps.getD 1 undef = .pointer (some ⟨w.heap.size,0,none⟩):=hkp 1 (by rfl);unfold looseRun;go_simp;exact ⟨Below.refl _ _,trivial,rfl⟩
  refine looseSteps_cons (fun k a' w' hk0' hk1' hR hG hkp hd => ?_) ?_
  ·have hR0 : Below wA.drew.heap.size wA.drew w':=hR
   have hRb : Below wA.heap.size wA w':=⟨hR0.os,hR0.tape,hR0.output,hR0.size,hR0.block⟩;have e1:=hd.1 rfl;have e1' : a'.tmps.getD 13 undef = _:=e1;have e1q:=e1';rw [Array.getD_eq_getD_getElem?] at e1q;have rr4:=(hRb.cell (p:=⟨w.heap.size,4,none⟩) (by show w.heap.size < _; omega)).trans q4;unfold looseRun;go_simp;exact ⟨Below.refl _ _,trivial,rfl⟩
  exact looseSteps_nil
 ·intro w3 hb3
  simp only [List.take_succ_cons,List.take_zero,List.drop_succ_cons,List.drop_zero];refine looseAll_cons fun v3 h3 => ?_
  refine looseAll_cons fun v4 h4 => ?_
  refine looseAll_cons fun v5 h5 => ?_
  refine looseAll_cons fun v6 h6 => ?_
  refine looseAll_cons fun v7 h7 => ?_
  refine looseAll_cons fun v8 h8 => ?_
  refine looseAll_cons fun v9 h9 => ?_
  refine looseAll_cons fun v10 h10 => ?_
  refine looseAll_cons fun v11 h11 => ?_
  refine looseAll_cons fun v12 h12 => ?_
  refine looseAll_cons fun v13 h13 => ?_
  refine looseAll_cons fun v14 h14 => ?_
  refine looseAll_nil ?_;have e1 : v4 = .agg #[.string who.1,.string who.2]:=h4;have e2 : v14 = .int .i64 nx:=h14;subst e1 e2;obtain ⟨I',ci',rfl,oI⟩:=h8;obtain ⟨F',cf',rfl,oF⟩:=h12;clear h3 h4 h5 h6 h7 h9 h10 h11 h13 h14;have oR3:=Own.below oR hb3;have k3:=hbA.trans (hb3.mono hbA.size);have r0:=oR3.cell rfl (j:=0) (by omega);have rf0:=oR3.frozen rfl 0;have r1:=oR3.cell rfl (j:=1) (by omega);have rf1:=oR3.frozen rfl 1;have r2:=oR3.cell rfl (j:=2) (by omega);have rf2:=oR3.frozen rfl 2;have r3:=oR3.cell rfl (j:=3) (by omega);have rf3:=oR3.frozen rfl 3;have r4:=oR3.cell rfl (j:=4) (by omega);have rf4:=oR3.frozen rfl 4;simp only [zBr'] at r0 r1 r2 r3 r4;have F1:=(own_set' (own_set' (own_set' (own_set' (own_set' oI (w.heap.size + 1) 0 (Value.string who.1) (by omega)) (w.heap.size + 1) 1 (Value.string who.2) (by omega)) (w.heap.size + 1) 2 (Value.slice I' is.length ci') (by omega)) (w.heap.size + 1) 3 (Value.slice F' fs.length cf') (by omega)) (w.heap.size + 1) 4 (Value.int .i64 nx) (by omega));have F2:=(own_set' (own_set' (own_set' (own_set' (own_set' oF (w.heap.size + 1) 0 (Value.string who.1) (by omega)) (w.heap.size + 1) 1 (Value.string who.2) (by omega)) (w.heap.size + 1) 2 (Value.slice I' is.length ci') (by omega)) (w.heap.size + 1) 3 (Value.slice F' fs.length cf') (by omega)) (w.heap.size + 1) 4 (Value.int .i64 nx) (by omega));have K3:=(((((k3.setCell (p:=⟨w.heap.size + 1,0,none⟩) (by show w.heap.size ≤ w.heap.size + 1; omega) (Value.string who.1)).setCell (p:=⟨w.heap.size + 1,1,none⟩) (by show w.heap.size ≤ w.heap.size + 1; omega) (Value.string who.2)).setCell (p:=⟨w.heap.size + 1,2,none⟩) (by show w.heap.size ≤ w.heap.size + 1; omega) (Value.slice I' is.length ci')).setCell (p:=⟨w.heap.size + 1,3,none⟩) (by show w.heap.size ≤ w.heap.size + 1; omega) (Value.slice F' fs.length cf')).setCell (p:=⟨w.heap.size + 1,4,none⟩) (by show w.heap.size ≤ w.heap.size + 1; omega) (Value.int .i64 nx));clear q0 q1 q2 q3 q4 oR oI oF;simp only [Act.put,List.setIfInBounds_toArray,List.set_cons_zero,List.set_cons_succ]
  go_wp2_with fail
  exact bodyPost_ret (v:=.agg #[.string who.1,.string who.2,.slice I' is.length ci',.slice F' fs.length cf',.int .i64 nx]) (by simp [results,Tryz.results34,go_sem,r0,r1,r2,r3,r4]) rfl ⟨I',ci',F',cf',rfl,Own.more F1 (by omega),Own.more F2 (by omega),K3⟩
def OutBl (base : Nat) (r : ElBr × ByteArray) (w : World) (e : Ending) (w' : World) : Prop:=∃ (I' : Option Addr) (ci' : Nat) (F' : Option Addr) (cf' : Nat),e = .returned (.tuple #[.agg #[.string r.1.1.1,.string r.1.1.2,.slice I' r.1.2.1.length ci',.slice F' r.1.2.2.1.length cf',.int .i64 r.1.2.2.2],.string r.2]) ∧ OwnE 4 encItem 69 w' base I' ci' r.1.2.1 ∧ OwnE 2 encHandle 29 w' base F' cf' r.1.2.2.1 ∧ Below w.heap.size w w'
theorem OwnE.capLe {α : Type} [Inhabited α] {sz : Nat} {enc : α → Nat → Value} {e : TypeId} {w : World} {base cap : Nat} {A : Option Addr} {xs : List α} (h : OwnE sz enc e w base A cap xs) : xs.length ≤ cap:=by
 rcases Own.shp h with ⟨_,h1,_⟩ | ⟨_,_,_,h1,_⟩
 ·omega
 ·exact h1
theorem own_setN {w : World} {base e sz n cap : Nat} {A : Option Addr} {f : Nat → Value} (h : Own w base e sz A n cap f) (b o : Nat) (u : Value) (hb : ∀ b',blk A = some b' → b' ≠ b) : Own (w.setCell ⟨b,o,none⟩ u) base e sz A n cap f :=
 Own.keepB h fun b' hb' => Below.heap_setCell _ _ _ _ (by exact hb b' hb')
theorem told_ac {who : ElHandle} {nx : Int} {is js : List ElItem} (hw : hvB who = true) (hi : fdB is = true) (hj : fdB js = true) (hn : inB nx 0 1000000 = true) (hp : 0 < (tcK is js).length) :
    ∃ (c : Nat) (key : ByteArray),c < 6 ∧ gt (tcOf who nx is js) 0 = ((c : Int),nx,who.1,who.2,key) ∧ acB (c : Int) nx who key = true:=by
 obtain ⟨h1,h2⟩:=tcK_mem hi hj (gt_mem hp);obtain ⟨n0,n1⟩:=inB_of hn;refine ⟨(gt (tcK is js) 0).1.toNat,(gt (tcK is js) 0).2,by omega,?_,?_⟩
 ·unfold tcOf
  rw [acts_head who nx hp];rw [show (((gt (tcK is js) 0).1.toNat : Nat) : Int) = (gt (tcK is js) 0).1 by omega]
 ·unfold acB
  rw [inB_true (by omega) (by omega),inB_true (by omega) (by omega),hw,h2]; rfl
def bxC (who : ElHandle) (I : Option Addr) (n ci : Nat) (F : Option Addr) (m cf : Nat) (nx : Int) : Nat → Value
 | 0 => .string who.1
 | 1 => .string who.2
 | 2 => .slice I n ci
 | 3 => .slice F m cf
 | _ => .int .i64 nx
set_option maxHeartbeats 3200000 in
theorem tellItems_any (js : List ElItem) (J : Option Addr) (cj : Nat) (who : ElHandle) (is : List ElItem) (fs : List ElHandle) (nx : Int) (I : Option Addr) (ci : Nat) (F : Option Addr) (cf base : Nat) (w : World) (hI : OwnE 4 encItem 69 w base I ci is) (hF : OwnE 2 encHandle 29 w base F cf fs) (_hb : base ≤ w.heap.size) (hv : brB who is fs nx = true) (hT : KwTab w) (hJ : OwnE 4 encItem 69 w base J cj js) (hj : fdB js = true) :
    Calls Tryz.prog 102 #[.agg #[.string who.1,.string who.2,.slice I is.length ci,.slice F fs.length cf,.int .i64 nx],.slice J js.length cj] w (OutBl base (tellOf (who,is,fs,nx) js) w):=by
 have zw : (w.alloc (.cells #[.string who.1,.string who.2,.slice I is.length ci,.slice F fs.length cf,.int .i64 nx] 33)).heap.size = w.heap.size + 1:=by simp
 have hbA : Below w.heap.size w ((w.alloc (.cells #[.string who.1,.string who.2,.slice I is.length ci,.slice F fs.length cf,.int .i64 nx] 33)).alloc (.cells #[.string { data:=#[] },.string { data:=#[] },.slice none 0 0,.slice none 0 0,.int .i64 0] 33)):=((Below.refl _ _).alloc (Nat.le_refl _) _).alloc (by simp) _;have zA : ((w.alloc (.cells #[.string who.1,.string who.2,.slice I is.length ci,.slice F fs.length cf,.int .i64 nx] 33)).alloc (.cells #[.string { data:=#[] },.string { data:=#[] },.slice none 0 0,.slice none 0 0,.int .i64 0] 33)).heap.size = w.heap.size + 2:=by simp
 have oB : Own ((w.alloc (.cells #[.string who.1,.string who.2,.slice I is.length ci,.slice F fs.length cf,.int .i64 nx] 33)).alloc (.cells #[.string { data:=#[] },.string { data:=#[] },.slice none 0 0,.slice none 0 0,.int .i64 0] 33)) w.heap.size 33 5 (some ⟨w.heap.size,0,none⟩) 1 1 (bxC who I is.length ci F fs.length cf nx):=Own.below (Own.lit w 33 5 1 #[Value.string who.1,Value.string who.2,Value.slice I is.length ci,Value.slice F fs.length cf,Value.int .i64 nx] (bxC who I is.length ci F fs.length cf nx) (by simp only [maxLen]; omega) rfl) ((Below.refl _ _).alloc (Nat.le_refl _) _);have oR : Own ((w.alloc (.cells #[.string who.1,.string who.2,.slice I is.length ci,.slice F fs.length cf,.int .i64 nx] 33)).alloc (.cells #[.string { data:=#[] },.string { data:=#[] },.slice none 0 0,.slice none 0 0,.int .i64 0] 33)) (w.heap.size + 1) 33 5 (some ⟨w.heap.size + 1,0,none⟩) 1 1 zBr':=by
  have:=Own.lit (w.alloc (.cells #[.string who.1,.string who.2,.slice I is.length ci,.slice F fs.length cf,.int .i64 nx] 33)) 33 5 1 #[Value.string { data:=#[] },Value.string { data:=#[] },Value.slice none 0 0,Value.slice none 0 0,Value.int .i64 0] zBr' (by simp only [maxLen]; omega) rfl;rw [zw] at this;exact this
 clear zw;obtain ⟨hw,hi,hf,hn⟩:=brB_of hv;obtain ⟨n0,n1⟩:=inB_of hn;have hi8:=fd_len hi;have hj8:=fd_len hj;have hf10:=(Fv.of hf).1;have HW:=Lib.hid hw;have HI:=Lib.hid hi;have HJ:=Lib.hid hj;have HF:=Lib.hid hf;have HN:=Lib.hid hn;have HT:=Lib.hid hT;clear hw hi hj hf hn hv hT;have hIA:=Own.below hI hbA;have hNI : ∀ b,blk I = some b → b ≠ w.heap.size + 1:=fun b _hb => by have:=(Own.lt hI _hb).2; omega
 have hFA:=Own.below hF hbA;have hNF : ∀ b,blk F = some b → b ≠ w.heap.size + 1:=fun b _hb => by have:=(Own.lt hF _hb).2; omega
 have hJA:=Own.below hJ hbA;have hNJ : ∀ b,blk J = some b → b ≠ w.heap.size + 1:=fun b _hb => by have:=(Own.lt hJ _hb).2; omega
 have a0:=(show _ = some (Value.string who.1) from oB.cell rfl (j:=0) (by omega));have a1:=(show _ = some (Value.string who.2) from oB.cell rfl (j:=1) (by omega));have a2:=(show _ = some (Value.slice I is.length ci) from oB.cell rfl (j:=2) (by omega));have a3:=(show _ = some (Value.slice F fs.length cf) from oB.cell rfl (j:=3) (by omega));have a4:=(show _ = some (Value.int .i64 nx) from oB.cell rfl (j:=4) (by omega));go_enter Tryz.func102,Tryz.ntmps102
 go_wp2_with fail
 generalize ((w.alloc (.cells #[.string who.1,.string who.2,.slice I is.length ci,.slice F fs.length cf,.int .i64 nx] 33)).alloc (.cells #[.string { data:=#[] },.string { data:=#[] },.slice none 0 0,.slice none 0 0,.int .i64 0] 33)) = wA at *
 refine (implTellChanges_any who nx I ci J cj wA.heap.size is js wA (OwnE.rd hIA) (OwnE.rd hJA) (Nat.le_refl _) (OwnE.capLe hIA) (OwnE.capLe hJA) HI.out HJ.out HW.out HN.out).mono ?_;rintro e w1 ⟨R,cR,rfl,oT,b1⟩;have k1:=hbA.trans (b1.mono hbA.size);have hI1:=Own.below hIA b1;have hF1:=Own.below hFA b1;have hJ1:=Own.below hJA b1;have oB1:=Own.below oB b1;have oR1:=Own.below oR b1;have z1 : w.heap.size + 1 < w1.heap.size:=by have:=b1.size; omega
 have HTL : Hid ((tcOf who nx is js).length = (tcK is js).length):=Lib.hid (acts_len _ _ _);clear hIA hFA hJA oB oR b1 a0 a1 a2 a3 a4;have a0:=(show _ = some (Value.string who.1) from oB1.cell rfl (j:=0) (by omega));have a1:=(show _ = some (Value.string who.2) from oB1.cell rfl (j:=1) (by omega));have a2:=(show _ = some (Value.slice I is.length ci) from oB1.cell rfl (j:=2) (by omega));have a3:=(show _ = some (Value.slice F fs.length cf) from oB1.cell rfl (j:=3) (by omega));have a4:=(show _ = some (Value.int .i64 nx) from oB1.cell rfl (j:=4) (by omega));have r0:=(show _ = some (Value.string { data:=#[] }) from oR1.cell rfl (j:=0) (by omega));have rf0:=oR1.frozen rfl 0;have r1:=(show _ = some (Value.string { data:=#[] }) from oR1.cell rfl (j:=1) (by omega));have rf1:=oR1.frozen rfl 1;have r2:=(show _ = some (Value.slice none 0 0) from oR1.cell rfl (j:=2) (by omega));have rf2:=oR1.frozen rfl 2;have r3:=(show _ = some (Value.slice none 0 0) from oR1.cell rfl (j:=3) (by omega));have rf3:=oR1.frozen rfl 3;have r4:=(show _ = some (Value.int .i64 0) from oR1.cell rfl (j:=4) (by omega));have rf4:=oR1.frozen rfl 4;by_cases ht : (tcK is js).length = 0
 ·have HQ : Hid (tellOf (who,is,fs,nx) js = ((who,is,fs,nx),wSame)):=Lib.hid (if_pos ht)
  have e0 : ((((tcOf who nx is js).length : Nat) : Int) == 0) = true:=by rw [HTL.out,ht]; rfl
  clear ht
  go_wp2_with fail
  refine bodyPost_ret (v:=.tuple #[.agg #[.string who.1,.string who.2,.slice I is.length ci,.slice F fs.length cf,.int .i64 nx],.string { data:=#[115,97,109,101] }]) ?_ rfl ?_
  ·simp [results,Tryz.results102,go_sem,r0,r1,r2,r3,r4]
  ·rw [HQ.out]
   exact ⟨I,ci,F,cf,rfl,(own_setN (own_setN (own_setN (own_setN (own_setN hI1 (w.heap.size + 1) 0 (Value.string who.1) hNI) (w.heap.size + 1) 1 (Value.string who.2) hNI) (w.heap.size + 1) 2 (Value.slice I is.length ci) hNI) (w.heap.size + 1) 3 (Value.slice F fs.length cf) hNI) (w.heap.size + 1) 4 (Value.int .i64 nx) hNI),(own_setN (own_setN (own_setN (own_setN (own_setN hF1 (w.heap.size + 1) 0 (Value.string who.1) hNF) (w.heap.size + 1) 1 (Value.string who.2) hNF) (w.heap.size + 1) 2 (Value.slice I is.length ci) hNF) (w.heap.size + 1) 3 (Value.slice F fs.length cf) hNF) (w.heap.size + 1) 4 (Value.int .i64 nx) hNF),(((((k1.setCell (p:=⟨w.heap.size + 1,0,none⟩) (by show w.heap.size ≤ w.heap.size + 1; omega) (Value.string who.1)).setCell (p:=⟨w.heap.size + 1,1,none⟩) (by show w.heap.size ≤ w.heap.size + 1; omega) (Value.string who.2)).setCell (p:=⟨w.heap.size + 1,2,none⟩) (by show w.heap.size ≤ w.heap.size + 1; omega) (Value.slice I is.length ci)).setCell (p:=⟨w.heap.size + 1,3,none⟩) (by show w.heap.size ≤ w.heap.size + 1; omega) (Value.slice F fs.length cf)).setCell (p:=⟨w.heap.size + 1,4,none⟩) (by show w.heap.size ≤ w.heap.size + 1; omega) (Value.int .i64 nx))⟩
 ·have e0 : ((((tcOf who nx is js).length : Nat) : Int) == 0) = false:=by rw [HTL.out,beq_eq_false_iff_ne]; omega
  obtain ⟨c,key,hc6,hg0,hac⟩:=told_ac HW.out HI.out HJ.out HN.out (by omega : 0 < (tcK is js).length);have hTp : 0 < (tcOf who nx is js).length:=by rw [HTL.out]; omega
  have oC : Own (w1.alloc (.cells #[.string who.1,.string who.2,.slice J js.length cj,.slice F fs.length cf,.int .i64 (nx + 1)] 33)) w1.heap.size 33 5 (some ⟨w1.heap.size,0,none⟩) 1 1 (bxC who J js.length cj F fs.length cf (nx + 1)):=Own.lit w1 33 5 1 #[Value.string who.1,Value.string who.2,Value.slice J js.length cj,Value.slice F fs.length cf,Value.int .i64 (nx + 1)] (bxC who J js.length cj F fs.length cf (nx + 1)) (by simp only [maxLen]; omega) rfl;have bC : Below w1.heap.size w1 (w1.alloc (.cells #[.string who.1,.string who.2,.slice J js.length cj,.slice F fs.length cf,.int .i64 (nx + 1)] 33)):=(Below.refl _ _).alloc (Nat.le_refl _) _;have k2:=k1.trans (bC.mono k1.size);have hI2:=Own.below hI1 bC;have hF2:=Own.below hF1 bC;have hJ2:=Own.below hJ1 bC;have oB2:=Own.below oB1 bC;have oR2:=Own.below oR1 bC;have oT2:=Own.below oT bC;have d0:=(show _ = some (Value.string who.1) from oC.cell rfl (j:=0) (by omega));have d1:=(show _ = some (Value.string who.2) from oC.cell rfl (j:=1) (by omega));have d2:=(show _ = some (Value.slice J js.length cj) from oC.cell rfl (j:=2) (by omega));have d3:=(show _ = some (Value.slice F fs.length cf) from oC.cell rfl (j:=3) (by omega));have d4:=(show _ = some (Value.int .i64 (nx + 1)) from oC.cell rfl (j:=4) (by omega));have hw1 : who.1.size ≤ maxLen:=by have:=(hv_sizes HW.out).1.2; unfold maxLen; omega
  have hw2 : who.2.size ≤ maxLen:=by have:=(hv_sizes HW.out).2.2; unfold maxLen; omega
  go_wp2_with fail
  generalize (w1.alloc (.cells #[.string who.1,.string who.2,.slice J js.length cj,.slice F fs.length cf,.int .i64 (nx + 1)] 33)) = w2 at *
  refine (implBridgeValid_any who J cj js F cf fs (nx + 1) w2 w2.heap.size (OwnE.rd hJ2) (OwnE.rd hF2) (Nat.le_refl _) (by omega) (by omega) (OwnE.capLe hJ2) (fd_sz HJ.out) (fv_sz HF.out) hw1 hw2).mono ?_;rintro e w3 ⟨rfl,b3⟩;have k3:=k2.trans (b3.mono k2.size);have hI3:=Own.below hI2 b3;have hF3:=Own.below hF2 b3;have hJ3:=Own.below hJ2 b3;have oB3:=Own.below oB2 b3;have oR3:=Own.below oR2 b3;have oC3:=Own.below oC b3;have oT3:=Own.below oT2 b3;clear a0 r0 rf0 d0 a1 r1 rf1 d1 a2 r2 rf2 d2 a3 r3 rf3 d3 a4 r4 rf4 d4;have a0:=(show _ = some (Value.string who.1) from oB3.cell rfl (j:=0) (by omega));have a1:=(show _ = some (Value.string who.2) from oB3.cell rfl (j:=1) (by omega));have a2:=(show _ = some (Value.slice I is.length ci) from oB3.cell rfl (j:=2) (by omega));have a3:=(show _ = some (Value.slice F fs.length cf) from oB3.cell rfl (j:=3) (by omega));have a4:=(show _ = some (Value.int .i64 nx) from oB3.cell rfl (j:=4) (by omega));have r0:=(show _ = some (Value.string { data:=#[] }) from oR3.cell rfl (j:=0) (by omega));have rf0:=oR3.frozen rfl 0;have r1:=(show _ = some (Value.string { data:=#[] }) from oR3.cell rfl (j:=1) (by omega));have rf1:=oR3.frozen rfl 1;have r2:=(show _ = some (Value.slice none 0 0) from oR3.cell rfl (j:=2) (by omega));have rf2:=oR3.frozen rfl 2;have r3:=(show _ = some (Value.slice none 0 0) from oR3.cell rfl (j:=3) (by omega));have rf3:=oR3.frozen rfl 3;have r4:=(show _ = some (Value.int .i64 0) from oR3.cell rfl (j:=4) (by omega));have rf4:=oR3.frozen rfl 4;have z3 : w1.heap.size < w3.heap.size:=(oC3.lt (b:=w1.heap.size) rfl).2;have z31 : w.heap.size + 1 < w3.heap.size:=by omega
  cases hbv : brB who js fs (nx + 1)
  ·have HQ : Hid (tellOf (who,is,fs,nx) js = ((who,is,fs,nx),wNo)):=Lib.hid (by unfold tellOf; rw [if_neg ht,if_neg (by rw [hbv]; simp)])
   clear ht hbv
   go_wp2_with fail
   refine bodyPost_ret (v:=.tuple #[.agg #[.string who.1,.string who.2,.slice I is.length ci,.slice F fs.length cf,.int .i64 nx],.string { data:=#[110,111] }]) ?_ rfl ?_
   ·simp [results,Tryz.results102,go_sem,r0,r1,r2,r3,r4]
   ·rw [HQ.out]
    exact ⟨I,ci,F,cf,rfl,(own_setN (own_setN (own_setN (own_setN (own_setN hI3 (w.heap.size + 1) 0 (Value.string who.1) hNI) (w.heap.size + 1) 1 (Value.string who.2) hNI) (w.heap.size + 1) 2 (Value.slice I is.length ci) hNI) (w.heap.size + 1) 3 (Value.slice F fs.length cf) hNI) (w.heap.size + 1) 4 (Value.int .i64 nx) hNI),(own_setN (own_setN (own_setN (own_setN (own_setN hF3 (w.heap.size + 1) 0 (Value.string who.1) hNF) (w.heap.size + 1) 1 (Value.string who.2) hNF) (w.heap.size + 1) 2 (Value.slice I is.length ci) hNF) (w.heap.size + 1) 3 (Value.slice F fs.length cf) hNF) (w.heap.size + 1) 4 (Value.int .i64 nx) hNF),(((((k3.setCell (p:=⟨w.heap.size + 1,0,none⟩) (by show w.heap.size ≤ w.heap.size + 1; omega) (Value.string who.1)).setCell (p:=⟨w.heap.size + 1,1,none⟩) (by show w.heap.size ≤ w.heap.size + 1; omega) (Value.string who.2)).setCell (p:=⟨w.heap.size + 1,2,none⟩) (by show w.heap.size ≤ w.heap.size + 1; omega) (Value.slice I is.length ci)).setCell (p:=⟨w.heap.size + 1,3,none⟩) (by show w.heap.size ≤ w.heap.size + 1; omega) (Value.slice F fs.length cf)).setCell (p:=⟨w.heap.size + 1,4,none⟩) (by show w.heap.size ≤ w.heap.size + 1; omega) (Value.int .i64 nx))⟩
  ·have HQ : Hid (tellOf (who,is,fs,nx) js = ((who,js,fs,nx + 1),acOf c nx who key)):=Lib.hid (by
      unfold tellOf;rw [if_neg ht,if_pos hbv,hg0]
      rfl)
   clear ht hbv;obtain ⟨bT,hbT⟩ : ∃ b,R = some ⟨b,0,none⟩:=by
    rcases Own.shape oT3 with ⟨_,h0,_⟩ | ⟨b,h1,_⟩
    ·omega
    ·exact ⟨b,h1⟩
   have zT : bT < w3.heap.size:=(oT3.lt (b:=bT) (by rw [hbT]; rfl)).2;have t0 : w3.cell? ⟨bT,0,none⟩ = some (Value.int .i64 (c : Int)):=by have:=Own.cell oT3 hbT (j:=0 * 5 + 0) (by omega); rw [cE_at encAct _ 0 (by omega),hg0,Nat.zero_mul,Nat.zero_add] at this; exact this
   have t1 : w3.cell? ⟨bT,1,none⟩ = some (Value.int .i64 nx):=by have:=Own.cell oT3 hbT (j:=0 * 5 + 1) (by omega); rw [cE_at encAct _ 0 (by omega),hg0,Nat.zero_mul,Nat.zero_add] at this; exact this
   have t2 : w3.cell? ⟨bT,2,none⟩ = some (Value.string who.1):=by have:=Own.cell oT3 hbT (j:=0 * 5 + 2) (by omega); rw [cE_at encAct _ 0 (by omega),hg0,Nat.zero_mul,Nat.zero_add] at this; exact this
   have t3 : w3.cell? ⟨bT,3,none⟩ = some (Value.string who.2):=by have:=Own.cell oT3 hbT (j:=0 * 5 + 3) (by omega); rw [cE_at encAct _ 0 (by omega),hg0,Nat.zero_mul,Nat.zero_add] at this; exact this
   have t4 : w3.cell? ⟨bT,4,none⟩ = some (Value.string key):=by have:=Own.cell oT3 hbT (j:=0 * 5 + 4) (by omega); rw [cE_at encAct _ 0 (by omega),hg0,Nat.zero_mul,Nat.zero_add] at this; exact this
   have d0:=(show _ = some (Value.string who.1) from oC3.cell rfl (j:=0) (by omega));have d1:=(show _ = some (Value.string who.2) from oC3.cell rfl (j:=1) (by omega));have d2:=(show _ = some (Value.slice J js.length cj) from oC3.cell rfl (j:=2) (by omega));have d3:=(show _ = some (Value.slice F fs.length cf) from oC3.cell rfl (j:=3) (by omega));have d4:=(show _ = some (Value.int .i64 (nx + 1)) from oC3.cell rfl (j:=4) (by omega));subst hbT;have HAC:=Lib.hid (fun (z : World) hz => implActivityText_any c nx who key z hc6 hac hz);have HT3:=Lib.hid (HT.out.below k3 (Nat.le_refl _));clear hac hg0
   go_wp2_with fail
   refine wp_region_makes 5 [(isS (.agg #[.string who.1,.string who.2,.slice J js.length cj,.slice F fs.length cf,.int .i64 (nx + 1)])),(isS (.slice (some ⟨bT,0,none⟩) (tcOf who nx is js).length cR)),(isS (.pointer (some ⟨bT,0,none⟩))),(isS (.agg #[.int .i64 (c : Int),.int .i64 nx,.string who.1,.string who.2,.string key])),(isS (.string (acOf c nx who key)))] [0,0,0,0,0] (by kernel_rfl) (by kernel_rfl) (by rfl) (by rfl) (by rfl) ?_ ?_ ?_
   ·repeat (first | exact stbB_nil | refine stbB_cons (isS_stb _) ?_)
   ·simp only [List.take_succ_cons,List.take_zero]
    refine looseSteps_cons (fun k a' w' hk0' hk1' hR hG hkp hd => ?_) ?_
    ·have hR0 : Below w3.drew.heap.size w3.drew w':=hR
     have hRb : Below w3.heap.size w3 w':=⟨hR0.os,hR0.tape,hR0.output,hR0.size,hR0.block⟩;have k7' : a'.tmps.getD 7 undef = .pointer (some ⟨w1.heap.size,0,none⟩):=hkp 7 (by rfl);have rr0:=(hRb.cell (p:=⟨w1.heap.size,0,none⟩) (by exact z3)).trans d0;have rr1:=(hRb.cell (p:=⟨w1.heap.size,1,none⟩) (by exact z3)).trans d1;have rr2:=(hRb.cell (p:=⟨w1.heap.size,2,none⟩) (by exact z3)).trans d2;have rr3:=(hRb.cell (p:=⟨w1.heap.size,3,none⟩) (by exact z3)).trans d3;have rr4:=(hRb.cell (p:=⟨w1.heap.size,4,none⟩) (by exact z3)).trans d4;unfold looseRun;go_simp;exact ⟨Below.refl _ _,trivial,rfl⟩
    refine looseSteps_cons (fun k a' w' hk0' hk1' hR hG hkp hd => ?_) ?_
    ·have hR0 : Below w3.drew.heap.size w3.drew w':=hR
     have hRb : Below w3.heap.size w3 w':=⟨hR0.os,hR0.tape,hR0.output,hR0.size,hR0.block⟩;have k6' : a'.tmps.getD 6 undef = .slice (some ⟨bT,0,none⟩) (tcOf who nx is js).length cR:=hkp 6 (by rfl);unfold looseRun;go_simp;exact ⟨Below.refl _ _,trivial,rfl⟩
    refine looseSteps_cons (fun k a' w' hk0' hk1' hR hG hkp hd => ?_) ?_
    ·have hR0 : Below w3.drew.heap.size w3.drew w':=hR
     have hRb : Below w3.heap.size w3 w':=⟨hR0.os,hR0.tape,hR0.output,hR0.size,hR0.block⟩;have e1:=hd.1 rfl;have e1' : a'.tmps.getD 34 undef = _:=e1;have e1q:=e1';rw [Array.getD_eq_getD_getElem?] at e1q;have hTi : (0 : Int) < ((tcOf who nx is js).length : Int):=by omega
     unfold looseRun;go_simp
     try rw [if_pos hTp]
     exact ⟨Below.refl _ _,trivial,rfl⟩
    refine looseSteps_cons (fun k a' w' hk0' hk1' hR hG hkp hd => ?_) ?_
    ·have hR0 : Below w3.drew.heap.size w3.drew w':=hR
     have hRb : Below w3.heap.size w3 w':=⟨hR0.os,hR0.tape,hR0.output,hR0.size,hR0.block⟩;have e1:=hd.1 rfl;have e1' : a'.tmps.getD 35 undef = _:=e1;have e1q:=e1';rw [Array.getD_eq_getD_getElem?] at e1q;have rr0:=(hRb.cell (p:=⟨bT,0,none⟩) (by exact zT)).trans t0;have rr1:=(hRb.cell (p:=⟨bT,1,none⟩) (by exact zT)).trans t1;have rr2:=(hRb.cell (p:=⟨bT,2,none⟩) (by exact zT)).trans t2;have rr3:=(hRb.cell (p:=⟨bT,3,none⟩) (by exact zT)).trans t3;have rr4:=(hRb.cell (p:=⟨bT,4,none⟩) (by exact zT)).trans t4;unfold looseRun;go_simp;exact ⟨Below.refl _ _,trivial,rfl⟩
    refine looseSteps_cons (fun k a' w' hk0' hk1' hR hG hkp hd => ?_) ?_
    ·have hR0 : Below w3.drew.heap.size w3.drew w':=hR
     have hRb : Below w3.heap.size w3 w':=⟨hR0.os,hR0.tape,hR0.output,hR0.size,hR0.block⟩;have e1:=hd.1 rfl;have e1' : a'.tmps.getD 36 undef = _:=e1;have e1q:=e1';rw [Array.getD_eq_getD_getElem?] at e1q;unfold looseRun;go_simp;refine ⟨rfl,(HAC.out _ (HT3.out.below hRb (Nat.le_refl _))).mono ?_⟩;rintro e w2 ⟨rfl,_hb⟩;exact ⟨_,rfl,_hb,trivial,rfl⟩
    exact looseSteps_nil
   ·intro w4 b4
    simp only [List.take_succ_cons,List.take_zero,List.drop_succ_cons,List.drop_zero];refine looseAll_cons fun v33 h33 => ?_
    refine looseAll_cons fun v34 h34 => ?_
    refine looseAll_cons fun v35 h35 => ?_
    refine looseAll_cons fun v36 h36 => ?_
    refine looseAll_cons fun v37 h37 => ?_
    refine looseAll_nil ?_;have e1 : v33 = .agg #[.string who.1,.string who.2,.slice J js.length cj,.slice F fs.length cf,.int .i64 (nx + 1)]:=h33;have e2 : v37 = .string (acOf c nx who key):=h37;subst e1 e2;clear h33 h34 h35 h36 h37;have k4:=k3.trans (b4.mono k3.size);have hI4:=Own.below hI3 b4;have hF4:=Own.below hF3 b4;have hJ4:=Own.below hJ3 b4;have oR4:=Own.below oR3 b4;clear a0 r0 rf0 d0 t0 a1 r1 rf1 d1 t1 a2 r2 rf2 d2 t2 a3 r3 rf3 d3 t3 a4 r4 rf4 d4 t4;have r0:=(show _ = some (Value.string { data:=#[] }) from oR4.cell rfl (j:=0) (by omega));have rf0:=oR4.frozen rfl 0;have r1:=(show _ = some (Value.string { data:=#[] }) from oR4.cell rfl (j:=1) (by omega));have rf1:=oR4.frozen rfl 1;have r2:=(show _ = some (Value.slice none 0 0) from oR4.cell rfl (j:=2) (by omega));have rf2:=oR4.frozen rfl 2;have r3:=(show _ = some (Value.slice none 0 0) from oR4.cell rfl (j:=3) (by omega));have rf3:=oR4.frozen rfl 3;have r4:=(show _ = some (Value.int .i64 0) from oR4.cell rfl (j:=4) (by omega));have rf4:=oR4.frozen rfl 4;simp only [Act.put,List.setIfInBounds_toArray,List.set_cons_zero,List.set_cons_succ]
    go_wp2_with fail
    refine bodyPost_ret (v:=.tuple #[.agg #[.string who.1,.string who.2,.slice J js.length cj,.slice F fs.length cf,.int .i64 (nx + 1)],.string (acOf c nx who key)]) ?_ rfl ?_
    ·simp [results,Tryz.results102,go_sem,r0,r1,r2,r3,r4]
    ·rw [HQ.out]
     exact ⟨J,cj,F,cf,rfl,(own_setN (own_setN (own_setN (own_setN (own_setN hJ4 (w.heap.size + 1) 0 (Value.string who.1) hNJ) (w.heap.size + 1) 1 (Value.string who.2) hNJ) (w.heap.size + 1) 2 (Value.slice J js.length cj) hNJ) (w.heap.size + 1) 3 (Value.slice F fs.length cf) hNJ) (w.heap.size + 1) 4 (Value.int .i64 (nx + 1)) hNJ),(own_setN (own_setN (own_setN (own_setN (own_setN hF4 (w.heap.size + 1) 0 (Value.string who.1) hNF) (w.heap.size + 1) 1 (Value.string who.2) hNF) (w.heap.size + 1) 2 (Value.slice J js.length cj) hNF) (w.heap.size + 1) 3 (Value.slice F fs.length cf) hNF) (w.heap.size + 1) 4 (Value.int .i64 (nx + 1)) hNF),(((((k4.setCell (p:=⟨w.heap.size + 1,0,none⟩) (by show w.heap.size ≤ w.heap.size + 1; omega) (Value.string who.1)).setCell (p:=⟨w.heap.size + 1,1,none⟩) (by show w.heap.size ≤ w.heap.size + 1; omega) (Value.string who.2)).setCell (p:=⟨w.heap.size + 1,2,none⟩) (by show w.heap.size ≤ w.heap.size + 1; omega) (Value.slice J js.length cj)).setCell (p:=⟨w.heap.size + 1,3,none⟩) (by show w.heap.size ≤ w.heap.size + 1; omega) (Value.slice F fs.length cf)).setCell (p:=⟨w.heap.size + 1,4,none⟩) (by show w.heap.size ≤ w.heap.size + 1; omega) (Value.int .i64 (nx + 1)))⟩
def mixTo {α : Type} (f : α → α) (xs : List α) (k : Nat) : List α:=(xs.take k).map f ++ xs.drop k
section
variable {α : Type} {f : α → α} {xs : List α} {k : Nat}
theorem mixTo_zero : mixTo f xs 0 = xs:=rfl
theorem mixTo_all : mixTo f xs xs.length = xs.map f:=by unfold mixTo; simp
theorem mixTo_len (hk : k ≤ xs.length) : (mixTo f xs k).length = xs.length:=by unfold mixTo; simp; omega
variable [Inhabited α]
theorem mixTo_gt (hk : k ≤ xs.length) {j : Nat} (hj : j < xs.length) : gt (mixTo f xs k) j = if j < k then f (gt xs j) else gt xs j:=by
 unfold mixTo;rw [gt_append,List.length_map,List.length_take,Nat.min_eq_left hk];by_cases h : j < k
 ·rw [if_pos h,if_pos h]
  unfold gt;simp [h,hj]
 ·rw [if_neg h,if_neg h,gt_drop]
  congr 1
  omega
theorem mixTo_set (hk : k < xs.length) : (mixTo f xs k).set k (f (gt xs k)) = mixTo f xs (k + 1):=by
 have hl:=mixTo_len (f:=f) (Nat.le_of_lt hk);refine gt_ext (by rw [List.length_set,hl,mixTo_len hk]) fun j hj => ?_
 rw [List.length_set,hl] at hj;rw [gt_set (by omega),mixTo_gt hk hj,mixTo_gt (Nat.le_of_lt hk) hj];by_cases h : j = k
 ·subst h; rw [if_pos rfl,if_pos (Nat.lt_succ_self _)]
 ·rw [if_neg h]
  by_cases h2 : j < k
  ·rw [if_pos h2,if_pos (by omega)]
  ·rw [if_neg h2,if_neg (by omega)]
theorem mixTo_same (hk : k < xs.length) (hf : f (gt xs k) = gt xs k) : mixTo f xs (k + 1) = mixTo f xs k:=by
 have hl:=mixTo_len (f:=f) (Nat.le_of_lt hk);refine gt_ext (by rw [hl,mixTo_len hk]) fun j hj => ?_
 rw [mixTo_len hk] at hj;rw [mixTo_gt hk hj,mixTo_gt (Nat.le_of_lt hk) hj];by_cases h : j = k
 ·subst h; rw [if_pos (Nat.lt_succ_self _),if_neg (Nat.lt_irrefl _),hf]
 ·by_cases h2 : j < k
  ·rw [if_pos h2,if_pos (by omega)]
  ·rw [if_neg h2,if_neg (by omega)]
end
theorem item_cells (y : ElItem) (k i : Nat) (g : Value) : (if i = k * 4 + 3 then Value.int .i64 y.2.2.2 else if i = k * 4 + 2 then Value.string y.2.2.1 else if i = k * 4 + 1 then Value.string y.2.1 else if i = k * 4 then Value.string y.1 else g) = if i / 4 = k then encItem y (i % 4) else g:=by
 by_cases hd : i / 4 = k
 ·rw [if_pos hd]
  rcases (by omega : i % 4 = 0 ∨ i % 4 = 1 ∨ i % 4 = 2 ∨ i % 4 = 3) with h | h | h | h
  ·rw [h,if_neg (by omega),if_neg (by omega),if_neg (by omega),if_pos (by omega)]; rfl
  ·rw [h,if_neg (by omega),if_neg (by omega),if_pos (by omega)]; rfl
  ·rw [h,if_neg (by omega),if_pos (by omega)]; rfl
  ·rw [h,if_pos (by omega)]; rfl
 ·rw [if_neg hd,if_neg (by omega),if_neg (by omega),if_neg (by omega),if_neg (by omega)]
set_option maxHeartbeats 1600000 in
theorem implMergeFeeds_any (A : Option Addr) (cap : Nat) (T : Option Addr) (capT B : Nat) (bs ns : List ElItem) (w : World) (h : RdE 4 encItem w B A bs) (ht : RdE 4 encItem w B T ns) (hB : B ≤ w.heap.size) (hcap : bs.length ≤ cap) (hcapT : ns.length ≤ capT) (hvb : fdB bs = true) (hva : fdB ns = true) :
    Calls Tryz.prog 101 #[.slice A bs.length cap,.slice T ns.length capT] w fun e w' => ∃ R cR,e = .returned (.slice R (mfOf bs ns).length cR) ∧ OwnE 4 encItem 69 w' w.heap.size R cR (mfOf bs ns) ∧ Below w.heap.size w w':=by
 have hb8:=fd_len hvb;have hn8:=fd_len hva;have HVB:=Lib.hid hvb;have HVA:=Lib.hid hva;clear hvb hva;go_enter Tryz.func101,Tryz.ntmps101
 go_wp2_with fail
 refine (implFeedValid_any A cap B bs w h hB (by omega) hcap (fd_sz HVB.out)).mono ?_;rintro e w1 ⟨rfl,hb1⟩;rw [HVB.out];have hs1:=hb1.size
 go_wp2_with fail
 refine (implFeedValid_any T capT B ns w1 (ht.below (hb1.mono hB)) (Nat.le_trans hB hs1) (by omega) hcapT (fd_sz HVA.out)).mono ?_;rintro e w2 ⟨rfl,hb2⟩;rw [HVA.out];have hb2w:=hb1.trans (hb2.mono hs1);have hs2:=hb2w.size;clear hb1 hb2 hs1
 go_wp2_with fail
 refine (copyOfItem_any A cap B bs w2 (h.below (hb2w.mono hB)) (by omega)).mono ?_;rintro e w3 ⟨T0,c0,rfl,o3,b3⟩;have hb3w:=hb2w.trans (b3.mono hs2);have o3w:=Own.more o3 hs2;clear o3 b3 hb2w
 go_wp2_with fail
 go_loopw [6,8,21] (fun _ _ i wr => ∃ (k : Nat) (cur : List ElItem),k ≤ bs.length ∧ i = .int .i64 k ∧ cur.length = bs.length ∧ Hid (cur = mixTo (mfI ns) bs k) ∧ OwnE 4 encItem 69 wr w.heap.size T0 c0 cur ∧ Below w.heap.size w wr) (fun _ _ i _ => bs.length - (intOf i).toNat)
 case atStart => exact ⟨0,bs,Nat.zero_le _,rfl,rfl,Lib.hid mixTo_zero.symm,o3w,hb3w⟩
 case round =>
  clear o3w hb3w;obtain ⟨k,cur,hk,rfl,hlen,hcur,hown,hbl⟩:=hrel;have hsz:=hbl.size;by_cases hklt : k < bs.length
  ·have hgk : gt cur k = gt bs k:=by rw [hcur.out,mixTo_gt hk hklt,if_neg (Nat.lt_irrefl _)]
   obtain ⟨b0,rfl,hb0,hb0l⟩ : ∃ b0,T0 = some ⟨b0,0,none⟩ ∧ w.heap.size ≤ b0 ∧ b0 < wr.heap.size:=by
    rcases Own.shape hown with ⟨_,h0,_⟩ | ⟨b0,h1,h2,h3,_⟩
    ·omega
    ·exact ⟨b0,h1,h2,h3⟩
   have c0 : wr.cell? ⟨b0,k * 4,none⟩ = some (Value.string (gt bs k).1):=by have:=Own.cell hown rfl (j:=k * 4 + 0) (by omega); rw [cE_at encItem cur k (by omega),hgk] at this; exact this
   have c1 : wr.cell? ⟨b0,k * 4 + 1,none⟩ = some (Value.string (gt bs k).2.1):=by have:=Own.cell hown rfl (j:=k * 4 + 1) (by omega); rw [cE_at encItem cur k (by omega),hgk] at this; exact this
   have c2 : wr.cell? ⟨b0,k * 4 + 2,none⟩ = some (Value.string (gt bs k).2.2.1):=by have:=Own.cell hown rfl (j:=k * 4 + 2) (by omega); rw [cE_at encItem cur k (by omega),hgk] at this; exact this
   have c3 : wr.cell? ⟨b0,k * 4 + 3,none⟩ = some (Value.int .i64 (gt bs k).2.2.2):=by have:=Own.cell hown rfl (j:=k * 4 + 3) (by omega); rw [cE_at encItem cur k (by omega),hgk] at this; exact this
   have htA:=ht.below ((hbl.alloc hsz (.cells #[.string (gt bs k).1,.string (gt bs k).2.1,.string (gt bs k).2.2.1,.int .i64 (gt bs k).2.2.2] 69)).mono hB);have hownA:=Own.below hown ((Below.refl _ _).alloc (Nat.le_refl _) (.cells #[.string (gt bs k).1,.string (gt bs k).2.1,.string (gt bs k).2.2.1,.int .i64 (gt bs k).2.2.2] 69));have hblA:=hbl.alloc hsz (.cells #[.string (gt bs k).1,.string (gt bs k).2.1,.string (gt bs k).2.2.1,.int .i64 (gt bs k).2.2.2] 69);have e0 : (wr.alloc (.cells #[.string (gt bs k).1,.string (gt bs k).2.1,.string (gt bs k).2.2.1,.int .i64 (gt bs k).2.2.2] 69)).cell? ⟨wr.heap.size,0,none⟩ = some (Value.string (gt bs k).1):=by rw [World.cell?_alloc_at _ _ _ _ rfl]; rfl
   have e1 : (wr.alloc (.cells #[.string (gt bs k).1,.string (gt bs k).2.1,.string (gt bs k).2.2.1,.int .i64 (gt bs k).2.2.2] 69)).cell? ⟨wr.heap.size,1,none⟩ = some (Value.string (gt bs k).2.1):=by rw [World.cell?_alloc_at _ _ _ _ rfl]; rfl
   have e2 : (wr.alloc (.cells #[.string (gt bs k).1,.string (gt bs k).2.1,.string (gt bs k).2.2.1,.int .i64 (gt bs k).2.2.2] 69)).cell? ⟨wr.heap.size,2,none⟩ = some (Value.string (gt bs k).2.2.1):=by rw [World.cell?_alloc_at _ _ _ _ rfl]; rfl
   have e3 : (wr.alloc (.cells #[.string (gt bs k).1,.string (gt bs k).2.1,.string (gt bs k).2.2.1,.int .i64 (gt bs k).2.2.2] 69)).cell? ⟨wr.heap.size,3,none⟩ = some (Value.int .i64 (gt bs k).2.2.2):=by rw [World.cell?_alloc_at _ _ _ _ rfl]; rfl
   have hszA : wr.heap.size < (wr.alloc (.cells #[.string (gt bs k).1,.string (gt bs k).2.1,.string (gt bs k).2.2.1,.int .i64 (gt bs k).2.2.2] 69)).heap.size:=by simp
   clear hown hbl;have HIX:=Lib.hid (fun z hz => itemNumber_any T capT B ns (gt bs k).1 (wr.alloc (.cells #[.string (gt bs k).1,.string (gt bs k).2.1,.string (gt bs k).2.2.1,.int .i64 (gt bs k).2.2.2] 69)) htA z hz)
   go_wp2_with fail
   generalize (wr.alloc (.cells #[.string (gt bs k).1,.string (gt bs k).2.1,.string (gt bs k).2.2.1,.int .i64 (gt bs k).2.2.2] 69)) = wA at *
   refine (HIX.out (by omega) (by omega)).mono ?_;rintro e w4 ⟨rfl,hb4⟩;clear HIX;have hbl4:=hblA.trans (hb4.mono (by omega));have hs4:=hbl4.size;have hown4:=Own.below hownA hb4;have ht4:=ht.below (hbl4.mono hB);clear c0 c1 c2 c3 e0 e1 e2 e3 hownA hblA htA;cases hq : hasK ns (gt bs k).1
   ·have hx:=ix_neg hq
    rw [hx];have hf : mfI ns (gt bs k) = gt bs k:=if_neg (by rw [hq]; simp);have HN:=Lib.hid (mixTo_same (f:=mfI ns) hklt hf);clear hx hq hf
    go_wp2_with fail
    go_roundw
    case rel => exact ⟨k + 1,cur,by omega,by go_num,hlen,Lib.hid (by rw [HN.out]; exact hcur.out),hown4,hbl4⟩
    case measure => simp [intOf]; omega
   ·obtain ⟨j,hj,hx,hw,_⟩:=ix_pos hq
    rw [hx];have gj : decide ((0 : Int) ≤ (j : Int)) = true:=decide_eq_true (by omega);have hf : mfI ns (gt bs k) = gt ns j:=by unfold mfI; rw [if_pos hq,hw]
    clear hx hq hw;obtain ⟨b2,off2,rfl,hb2,hc2⟩:=ht4.at_ (by omega);have y0 : w4.cell? ⟨b2,off2 + j * 4,none⟩ = some (Value.string (gt ns j).1):=hc2 j 0 (by omega) (by omega);have y1 : w4.cell? ⟨b2,off2 + j * 4 + 1,none⟩ = some (Value.string (gt ns j).2.1):=hc2 j 1 (by omega) (by omega);have y2 : w4.cell? ⟨b2,off2 + j * 4 + 2,none⟩ = some (Value.string (gt ns j).2.2.1):=hc2 j 2 (by omega) (by omega);have y3 : w4.cell? ⟨b2,off2 + j * 4 + 3,none⟩ = some (Value.int .i64 (gt ns j).2.2.2):=hc2 j 3 (by omega) (by omega);have z0:=Own.cell hown4 rfl (j:=k * 4 + 0) (by omega);rw [cE_at encItem cur k (by omega),hgk] at z0;have z0 : w4.cell? ⟨b0,k * 4,none⟩ = some (Value.string (gt bs k).1):=z0;have f0 : w4.frozen? ⟨b0,k * 4,none⟩ = false:=Own.frozen hown4 rfl (k * 4 + 0);have z1:=Own.cell hown4 rfl (j:=k * 4 + 1) (by omega);rw [cE_at encItem cur k (by omega),hgk] at z1;have z1 : w4.cell? ⟨b0,k * 4 + 1,none⟩ = some (Value.string (gt bs k).2.1):=z1;have f1 : w4.frozen? ⟨b0,k * 4 + 1,none⟩ = false:=Own.frozen hown4 rfl (k * 4 + 1);have z2:=Own.cell hown4 rfl (j:=k * 4 + 2) (by omega);rw [cE_at encItem cur k (by omega),hgk] at z2;have z2 : w4.cell? ⟨b0,k * 4 + 2,none⟩ = some (Value.string (gt bs k).2.2.1):=z2;have f2 : w4.frozen? ⟨b0,k * 4 + 2,none⟩ = false:=Own.frozen hown4 rfl (k * 4 + 2);have z3:=Own.cell hown4 rfl (j:=k * 4 + 3) (by omega);rw [cE_at encItem cur k (by omega),hgk] at z3;have z3 : w4.cell? ⟨b0,k * 4 + 3,none⟩ = some (Value.int .i64 (gt bs k).2.2.2):=z3;have f3 : w4.frozen? ⟨b0,k * 4 + 3,none⟩ = false:=Own.frozen hown4 rfl (k * 4 + 3);have s0:=Own.set hown4 rfl (j:=k * 4) (Value.string (gt ns j).1);have s1:=Own.set s0.1 rfl (j:=k * 4 + 1) (Value.string (gt ns j).2.1);have s2:=Own.set s1.1 rfl (j:=k * 4 + 2) (Value.string (gt ns j).2.2.1);have s3:=Own.set s2.1 rfl (j:=k * 4 + 3) (Value.int .i64 (gt ns j).2.2.2);have hownX : OwnE 4 encItem 69 ((((w4.setCell ⟨b0,k * 4,none⟩ (Value.string (gt ns j).1)).setCell ⟨b0,k * 4 + 1,none⟩ (Value.string (gt ns j).2.1)).setCell ⟨b0,k * 4 + 2,none⟩ (Value.string (gt ns j).2.2.1)).setCell ⟨b0,k * 4 + 3,none⟩ (Value.int .i64 (gt ns j).2.2.2)) w.heap.size (some ⟨b0,0,none⟩) c0 (cur.set k (gt ns j)):=OwnE.of_set (by omega) s3.1 (fun i _ => item_cells (gt ns j) k i _);have hg : w4.grownBy ((((w4.setCell ⟨b0,k * 4,none⟩ (Value.string (gt ns j).1)).setCell ⟨b0,k * 4 + 1,none⟩ (Value.string (gt ns j).2.1)).setCell ⟨b0,k * 4 + 2,none⟩ (Value.string (gt ns j).2.2.1)).setCell ⟨b0,k * 4 + 3,none⟩ (Value.int .i64 (gt ns j).2.2.2)) (some b0):=((s0.2.trans s1.2).trans s2.2).trans s3.2;have hblX:=hbl4.trans (grown_below (A:=some ⟨b0,0,none⟩) hg (fun b hb => by simp [blk] at hb; omega) hs4);have HN:=Lib.hid (mixTo_set (f:=mfI ns) hklt);rw [hf] at HN;clear s0 s1 s2 s3 hg hf hc2
    go_wp2_with fail
    go_roundw
    case rel => exact ⟨k + 1,cur.set k (gt ns j),by omega,by go_num,by rw [List.length_set]; exact hlen,Lib.hid (by rw [← HN.out,← hcur.out]),hownX,hblX⟩
    case measure => simp [intOf]; omega
  ·obtain rfl : k = bs.length:=by omega
   have hM : cur = bs.map (mfI ns):=by rw [hcur.out,mixTo_all]
   clear hcur
   go_wp2_with fail
   refine (implNewItems_any A cap T capT B bs ns wr (h.below (hbl.mono hB)) (ht.below (hbl.mono hB)) (Nat.le_trans hB hsz) hcap hcapT HVB.out HVA.out).mono ?_;rintro e w4 ⟨R,cR,rfl,o4,b4⟩;have hown4:=Own.below hown b4;have hbl4:=hbl.trans (b4.mono hsz);have hs4:=hbl4.size;have hr4:=OwnE.rd o4;have hnl:=nwOf_len bs ns;have HL : Hid (mfL bs ns = cur ++ nwOf bs ns):=Lib.hid (by rw [hM]; rfl);generalize nwOf bs ns = ws at *
   clear hM o4 b4 hown hbl;by_cases h9 : cur.length + ws.length ≤ 8
   ·have gl : decide ((8 : Int) < (bs.length : Int) + (ws.length : Int)) = false:=decide_eq_false (by omega)
    have HE : Hid (mfOf bs ns = cur ++ ws):=Lib.hid (by unfold mfOf; rw [HL.out,if_pos (by rw [List.length_append]; exact h9)]);clear h9
    go_wp2_with (at_builtin; refine wpList_app rfl (.tmp 40) (.tmp 43) _ rfl w.heap.size 69 _ 4 56 Tryz.underlying30 info_Item rfl (by omega) T0 R bs.length c0 ws.length cR w4.heap.size (cE 4 encItem cur) (cE 4 encItem ws) rfl rfl (OwnE.own hown4 hlen) hr4 (fun _ _ => encItem_one _ _) (by simp only [maxLen]; omega) (by omega) hs4 ?_; intro T1 cap1 w5 hown5 hg5)
    go_ret;have ho5:=OwnE.join (by omega) hlen rfl hown5;rw [HE.out];refine ⟨T1,cap1,?_,ho5,hbl4.trans (grown_below hg5 (fun b hb => (Own.lt hown4 hb).1) hs4)⟩;rw [List.length_append,hlen];rfl
   ·have gl : decide ((8 : Int) < (bs.length : Int) + (ws.length : Int)) = true:=decide_eq_true (by omega)
    have HE : Hid (mfOf bs ns = []):=Lib.hid (by unfold mfOf; rw [HL.out,if_neg (by rw [List.length_append]; exact h9)]);clear h9
    go_wp2_with (at_builtin; refine wpList_app rfl (.tmp 40) (.tmp 43) _ rfl w.heap.size 69 _ 4 56 Tryz.underlying30 info_Item rfl (by omega) T0 R bs.length c0 ws.length cR w4.heap.size (cE 4 encItem cur) (cE 4 encItem ws) rfl rfl (OwnE.own hown4 hlen) hr4 (fun _ _ => encItem_one _ _) (by simp only [maxLen]; omega) (by omega) hs4 ?_; intro T1 cap1 w5 hown5 hg5)
    go_ret;rw [HE.out];exact ⟨none,0,rfl,Own.nil _ _ _ _ _,hbl4.trans (grown_below hg5 (fun b hb => (Own.lt hown4 hb).1) hs4)⟩
end Go.Proofs.YtfnmlffpnmmcdaaGreatDoor
namespace Go.Proofs.YtfnmlffpnmmcdaaGreatDoor
set_option maxRecDepth 100000
open Go.RowKit
set_option maxHeartbeats 3200000 in
theorem implReadItem_any (s : ByteArray) (w : World) (hs : s.size ≤ maxLen) (hT : EsTab w) : Calls Tryz.prog 100 #[.string s] w fun e w' => e = .returned (.tuple #[.agg #[.string (riOf s).1,.string (riOf s).2.1,.string (riOf s).2.2.1,.int .i64 (riOf s).2.2.2],.bool (riOk s)]) ∧ Below w.heap.size w w':=by
 have oR : OwnE 4 encItem 69 (w.alloc (.cells #[.string { data:=#[] },.string { data:=#[] },.string { data:=#[] },.int .i64 0] 69)) w.heap.size (some ⟨w.heap.size,0,none⟩) 1 [({ data:=#[] },{ data:=#[] },{ data:=#[] },0)]:=Own.lit w 69 4 1 #[.string { data:=#[] },.string { data:=#[] },.string { data:=#[] },.int .i64 0] (cE 4 encItem [({ data:=#[] },{ data:=#[] },{ data:=#[] },0)]) (by simp only [maxLen]; omega) rfl;have hbA : Below w.heap.size w (w.alloc (.cells #[.string { data:=#[] },.string { data:=#[] },.string { data:=#[] },.int .i64 0] 69)):=(Below.refl _ _).alloc (Nat.le_refl _) _;have hzA : w.heap.size < (w.alloc (.cells #[.string { data:=#[] },.string { data:=#[] },.string { data:=#[] },.int .i64 0] 69)).heap.size:=by simp
 have HT:=Lib.hid (hT.below hbA (Nat.le_refl _));clear hT;have hev:=evB_at (elOf_valid s);have hl8:=hev.1
 have HEV:=Lib.hid (fun k (hk : k < (elOf s).length) => (show (gt (elOf s) k).1.size ≤ maxLen ∧ (gt (elOf s) k).2.size ≤ maxLen by
  have h:=hev.2 k hk;unfold eB at h;rw [Bool.and_eq_true] at h;have h1:=(Word.of h.1).2.1;have h2:=(Text.of h.2).1
  unfold maxLen; omega))
 clear hev;cases ho : elOk s
 ·have HQ:=Lib.hid (ri_no (.inl ho))
  go_enter Tryz.func100,Tryz.ntmps100
  go_wp2_with fail
  generalize (w.alloc (.cells #[.string { data:=#[] },.string { data:=#[] },.string { data:=#[] },.int .i64 0] 69)) = wA at *
  have hcall:=implReadElements_any s wA hs HT.out;rw [ho] at hcall;have HC:=Lib.hid hcall;clear hcall;generalize hxs : elOf s = xs at *
  clear hxs;refine HC.out.mono ?_;rintro e w1 ⟨R,cR,rfl,oX,b1⟩;have oR1:=Own.below oR b1;have k1:=hbA.trans (b1.mono hbA.size);have z1:=k1.size;have zz1 : w.heap.size < w1.heap.size:=Nat.lt_of_lt_of_le hzA b1.size;have hX:=OwnE.rd oX;clear HC;have r0:=oR1.cell (b:=w.heap.size) rfl (j:=0) (by simp);have r1:=oR1.cell (b:=w.heap.size) rfl (j:=1) (by simp);have r2:=oR1.cell (b:=w.heap.size) rfl (j:=2) (by simp);have r3:=oR1.cell (b:=w.heap.size) rfl (j:=3) (by simp);have rf0:=oR1.frozen (b:=w.heap.size) rfl 0;have rf1:=oR1.frozen (b:=w.heap.size) rfl 1;have rf2:=oR1.frozen (b:=w.heap.size) rfl 2;have rf3:=oR1.frozen (b:=w.heap.size) rfl 3;have r0 : _ = some (Value.string { data:=#[] }):=r0;have r1 : _ = some (Value.string { data:=#[] }):=r1;have r2 : _ = some (Value.string { data:=#[] }):=r2;have r3 : _ = some (Value.int .i64 0):=r3
  go_wp2_with fail
  exact bodyPost_ret (v:=.tuple #[.agg #[.string { data:=#[] },.string { data:=#[] },.string { data:=#[] },.int .i64 0],.bool false]) (by simp [results,Tryz.results100,go_sem,r0,r1,r2,r3]) rfl ⟨by rw [HQ.out.1,HQ.out.2]; first | done | rfl,(by first | exact k1 | exact ((((k1.setCell (p:=⟨w.heap.size,0,none⟩) (Nat.le_refl _) _).setCell (p:=⟨w.heap.size,1,none⟩) (Nat.le_refl _) _).setCell (p:=⟨w.heap.size,2,none⟩) (Nat.le_refl _) _).setCell (p:=⟨w.heap.size,3,none⟩) (Nat.le_refl _) _))⟩
 ·by_cases hb : tnOf (elOf s) (nms 3) ≤ 1
  ·have HB:=Lib.hid hb
   have HRS:=Lib.hid (fun h2 h3 => ri_yes (s:=s) ho h2 h3);have HRN:=Lib.hid (fun h => ri_no (s:=s) h);go_enter Tryz.func100,Tryz.ntmps100
   go_wp2_with fail
   generalize (w.alloc (.cells #[.string { data:=#[] },.string { data:=#[] },.string { data:=#[] },.int .i64 0] 69)) = wA at *
   have hcall:=implReadElements_any s wA hs HT.out;rw [ho] at hcall;have HC:=Lib.hid hcall;clear hcall;generalize hxs : elOf s = xs at *
   clear hxs;refine HC.out.mono ?_;rintro e w1 ⟨R,cR,rfl,oX,b1⟩;have oR1:=Own.below oR b1;have k1:=hbA.trans (b1.mono hbA.size);have z1:=k1.size;have zz1 : w.heap.size < w1.heap.size:=Nat.lt_of_lt_of_le hzA b1.size;have hX:=OwnE.rd oX;clear HC;have gt1 : decide ((1 : Int) < ((tnOf xs (nms 3) : Nat) : Int)) = false:=decide_eq_false (by omega);clear hb
   go_wp2_with fail
   refine (timesNamed_any R cR w1.heap.size xs (nms 3) w1 hX (Nat.le_refl _) (by omega)).mono ?_;rintro e w2 ⟨rfl,b2⟩;have k2:=k1.trans (b2.mono z1);have oR2:=Own.below oR1 b2;have oN : Own (w2.alloc (.cells #[.string { data:=#[107,101,121] },.string { data:=#[116,105,116,108,101] },.string { data:=#[100,97,121] }] 9)) w1.heap.size 9 1 (some ⟨w2.heap.size,0,none⟩) 3 3 nmC:=Own.more (Own.lit w2 9 1 3 _ _ (by simp only [maxLen]; omega) rfl) b2.size;have kN : Below w1.heap.size w1 (w2.alloc (.cells #[.string { data:=#[107,101,121] },.string { data:=#[116,105,116,108,101] },.string { data:=#[100,97,121] }] 9)):=b2.alloc b2.size _
   go_wp2_with fail
   go_loopw [7,26] (fun _ i wr => ∃ k : Nat,k ≤ 3 ∧ Hid (∀ j,j < k → tnOf xs (nms j) = 1) ∧ i = .int .i64 k ∧ Own wr w1.heap.size 9 1 (some ⟨w2.heap.size,0,none⟩) 3 3 nmC ∧ Below w1.heap.size w1 wr) (fun _ i _ => 3 - (intOf i).toNat)
   case atStart => exact ⟨0,Nat.zero_le _,Lib.hid (fun j hj => absurd hj (by omega)),rfl,oN,kN⟩
   case round =>
    clear oN kN b2 k2 oR2;obtain ⟨k,hk,HO,rfl,oN,kr⟩:=hrel;have kz:=kr.size;have kw:=k1.trans (kr.mono z1);have hXr:=hX.below kr;have hk0 : (0 : Int) ≤ (k : Int):=by omega
    by_cases hlt : k < 3
    ·have hki : (k : Int) < 3:=by omega
     have cn : wr.cell? ⟨w2.heap.size,k,none⟩ = some (.string (nms k)):=oN.cell rfl (j:=k) (by omega);have hcall:=timesNamed_any R cR w1.heap.size xs (nms k) wr hXr kz (by omega);have HC:=Lib.hid hcall;clear hcall;by_cases ht : tnOf xs (nms k) = 1
     ·have gt : (((tnOf xs (nms k) : Nat) : Int) != 1) = false:=by rw [ht]; rfl
      have HN:=Lib.hid (fun j (hj : j < k + 1) => (show tnOf xs (nms j) = 1 by
       rcases Nat.lt_succ_iff_lt_or_eq.1 hj with h | rfl
       ·exact HO.out j h
       ·exact ht))
      clear ht
      go_wp2_with fail
      refine HC.out.mono ?_;rintro e w3 ⟨rfl,b3⟩;have k3:=kr.trans (b3.mono kz);have oN3:=Own.below oN b3
      go_wp2_with fail
      go_roundw
      case rel => exact ⟨k + 1,by omega,HN,by go_num,oN3,k3⟩
      case measure => simp [intOf]; omega
     ·have gt : (((tnOf xs (nms k) : Nat) : Int) != 1) = true:=by rw [bne_iff_ne]; omega
      have HQ:=Lib.hid (HRN.out (.inr (.inl (fun h => ht (h.1 k hlt)))));clear ht
      go_wp2_with fail
      refine HC.out.mono ?_;rintro e w3 ⟨rfl,b3⟩;have k3:=kr.trans (b3.mono kz);have kw3:=k1.trans (k3.mono z1);have oR3:=Own.belowB oR1 k3 (fun b hb => by simp [blk] at hb; omega);have r0:=oR3.cell (b:=w.heap.size) rfl (j:=0) (by simp);have r1:=oR3.cell (b:=w.heap.size) rfl (j:=1) (by simp);have r2:=oR3.cell (b:=w.heap.size) rfl (j:=2) (by simp);have r3:=oR3.cell (b:=w.heap.size) rfl (j:=3) (by simp);have rf0:=oR3.frozen (b:=w.heap.size) rfl 0;have rf1:=oR3.frozen (b:=w.heap.size) rfl 1;have rf2:=oR3.frozen (b:=w.heap.size) rfl 2;have rf3:=oR3.frozen (b:=w.heap.size) rfl 3;have r0 : _ = some (Value.string { data:=#[] }):=r0;have r1 : _ = some (Value.string { data:=#[] }):=r1;have r2 : _ = some (Value.string { data:=#[] }):=r2;have r3 : _ = some (Value.int .i64 0):=r3
      go_wp2_with fail
      exact bodyPost_ret (v:=.tuple #[.agg #[.string { data:=#[] },.string { data:=#[] },.string { data:=#[] },.int .i64 0],.bool false]) (by simp [results,Tryz.results100,go_sem,r0,r1,r2,r3]) rfl ⟨by rw [HQ.out.1,HQ.out.2]; first | done | rfl,(by first | exact kw3 | exact ((((kw3.setCell (p:=⟨w.heap.size,0,none⟩) (Nat.le_refl _) _).setCell (p:=⟨w.heap.size,1,none⟩) (Nat.le_refl _) _).setCell (p:=⟨w.heap.size,2,none⟩) (Nat.le_refl _) _).setCell (p:=⟨w.heap.size,3,none⟩) (Nat.le_refl _) _))⟩
    ·obtain rfl : k = 3:=by omega
     have hrk : rsOk xs:=⟨HO.out,HB.out⟩;have o8 : Own (wr.alloc (.cells #[.string { data:=#[] },.string { data:=#[] },.string { data:=#[] },.int .i64 0] 69)) w1.heap.size 69 4 (some ⟨wr.heap.size,0,none⟩) 1 1 (cE 4 encItem [({ data:=#[] },{ data:=#[] },{ data:=#[] },0)]):=Own.more (Own.lit wr 69 4 1 _ _ (by simp only [maxLen]; omega) rfl) kz;have q8 : Below w1.heap.size w1 (wr.alloc (.cells #[.string { data:=#[] },.string { data:=#[] },.string { data:=#[] },.int .i64 0] 69)):=kr.alloc kz _;have hb8 : w1.heap.size ≤ wr.heap.size:=kz;cases hv : ivB (riI xs)
     ·have HQ:=Lib.hid (HRN.out (.inr (.inr hv)))
      go_wp2_with fail
      generalize (wr.alloc (.cells #[.string { data:=#[] },.string { data:=#[] },.string { data:=#[] },.int .i64 0] 69)) = v0 at *
      refine (implElementText_any R cR w1.heap.size xs (nms 0) v0 (hX.below q8) q8.size (by omega) HEV.out).mono ?_;rintro e u0 ⟨rfl,c0⟩;have o0b:=Own.below o8 c0;have q0b:=q8.trans (c0.mono q8.size);have y0:=o0b.cell rfl (j:=0) (by omega);have f0:=o0b.frozen rfl 0;have s0:=o0b.set rfl (j:=0) (.string (etOf xs (nms 0)));have q0c:=q0b.trans (grown_below s0.2 (fun b hb => by simp [blk] at hb; omega) q0b.size);have o0c:=s0.1;have y0 : _ = some (Value.string { data:=#[] }):=y0;clear s0 o8 q8
      go_wp2_with fail
      generalize (u0.setCell ⟨wr.heap.size,0,none⟩ (.string (etOf xs (nms 0)))) = v1 at *
      refine (implElementText_any R cR w1.heap.size xs (nms 1) v1 (hX.below q0c) q0c.size (by omega) HEV.out).mono ?_;rintro e u1 ⟨rfl,c1⟩;have o1b:=Own.below o0c c1;have q1b:=q0c.trans (c1.mono q0c.size);have y1:=o1b.cell rfl (j:=1) (by omega);have f1:=o1b.frozen rfl 1;have s1:=o1b.set rfl (j:=1) (.string (etOf xs (nms 1)));have q1c:=q1b.trans (grown_below s1.2 (fun b hb => by simp [blk] at hb; omega) q1b.size);have o1c:=s1.1;have y1 : _ = some (Value.string { data:=#[] }):=y1;clear s1 
      go_wp2_with fail
      generalize (u1.setCell ⟨wr.heap.size,1,none⟩ (.string (etOf xs (nms 1)))) = v2 at *
      refine (implElementText_any R cR w1.heap.size xs (nms 3) v2 (hX.below q1c) q1c.size (by omega) HEV.out).mono ?_;rintro e u2 ⟨rfl,c2⟩;have o2b:=Own.below o1c c2;have q2b:=q1c.trans (c2.mono q1c.size);have y2:=o2b.cell rfl (j:=2) (by omega);have f2:=o2b.frozen rfl 2;have s2:=o2b.set rfl (j:=2) (.string (etOf xs (nms 3)));have q2c:=q2b.trans (grown_below s2.2 (fun b hb => by simp [blk] at hb; omega) q2b.size);have o2c:=s2.1;have y2 : _ = some (Value.string { data:=#[] }):=y2;clear s2 
      go_wp2_with fail
      generalize (u2.setCell ⟨wr.heap.size,2,none⟩ (.string (etOf xs (nms 3)))) = v3 at *
      refine (implElementText_any R cR w1.heap.size xs (nms 2) v3 (hX.below q2c) q2c.size (by omega) HEV.out).mono ?_;rintro e u3 ⟨rfl,c3⟩;have o3b:=Own.below o2c c3;have q3b:=q2c.trans (c3.mono q2c.size);clear o2c q2c
      go_wp2_with fail
      refine (implReadDate_any (etOf xs (nms 2)) u3 (by have:=etOf_size xs (nms 2); unfold maxLen; omega)).mono ?_;rintro e u4 ⟨rfl,c4⟩;have o4b:=Own.below o3b c4;have q4b:=q3b.trans (c4.mono q3b.size);clear o3b q3b c3 c4;have y4:=o4b.cell rfl (j:=3) (by omega);have f4:=o4b.frozen rfl 3;have s4:=o4b.set rfl (j:=3) (.int .i64 (rdD (etOf xs (nms 2))));have q4c:=q4b.trans (grown_below s4.2 (fun b hb => by simp [blk] at hb; omega) q4b.size);have o4c:=s4.1;have y4 : _ = some (Value.int .i64 0):=y4;have d0:=o4c.cell rfl (j:=0) (by omega);have d0 : _ = some (Value.string (etOf xs (nms 0))):=d0;have g0:=o4c.frozen rfl 0;have d1:=o4c.cell rfl (j:=1) (by omega);have d1 : _ = some (Value.string (etOf xs (nms 1))):=d1;have g1:=o4c.frozen rfl 1;have d2:=o4c.cell rfl (j:=2) (by omega);have d2 : _ = some (Value.string (etOf xs (nms 3))):=d2;have g2:=o4c.frozen rfl 2;have d3:=o4c.cell rfl (j:=3) (by omega);have d3 : _ = some (Value.int .i64 (rdD (etOf xs (nms 2)))):=d3;have g3:=o4c.frozen rfl 3;clear s4 o4b q4b;have e0:=etOf_size xs (nms 0);have e1:=etOf_size xs (nms 1);have e3:=etOf_size xs (nms 3);have HCV:=Lib.hid (fun (z : World) => implItemValid_any (etOf xs (nms 0)) (etOf xs (nms 1)) (etOf xs (nms 3)) (rdD (etOf xs (nms 2))) z (by unfold maxLen; omega) (by unfold maxLen; omega) (by unfold maxLen; omega));have hv2 : ivB (etOf xs (nms 0),etOf xs (nms 1),etOf xs (nms 3),rdD (etOf xs (nms 2))) = false:=hv;rw [hv2] at HCV;clear e0 e1 e3 hv2
      go_wp2_with fail
      generalize (u4.setCell ⟨wr.heap.size,3,none⟩ (.int .i64 (rdD (etOf xs (nms 2))))) = v4 at *
      refine (HCV.out v4).mono ?_;rintro e u5 ⟨rfl,c5⟩;have q5:=q4c.trans (c5.mono q4c.size);have kw5:=k1.trans (q5.mono z1);have oR5:=Own.belowB oR1 q5 (fun b hb => by simp [blk] at hb; omega);have o5:=Own.below o4c c5;clear d0 g0;clear d1 g1;clear d2 g2;clear d3 g3;have d0:=o5.cell rfl (j:=0) (by omega);have d0 : _ = some (Value.string (etOf xs (nms 0))):=d0;have g0:=o5.frozen rfl 0;have d1:=o5.cell rfl (j:=1) (by omega);have d1 : _ = some (Value.string (etOf xs (nms 1))):=d1;have g1:=o5.frozen rfl 1;have d2:=o5.cell rfl (j:=2) (by omega);have d2 : _ = some (Value.string (etOf xs (nms 3))):=d2;have g2:=o5.frozen rfl 2;have d3:=o5.cell rfl (j:=3) (by omega);have d3 : _ = some (Value.int .i64 (rdD (etOf xs (nms 2)))):=d3;have g3:=o5.frozen rfl 3;clear o5 o4c q4c q5;have r0:=oR5.cell (b:=w.heap.size) rfl (j:=0) (by simp);have r1:=oR5.cell (b:=w.heap.size) rfl (j:=1) (by simp);have r2:=oR5.cell (b:=w.heap.size) rfl (j:=2) (by simp);have r3:=oR5.cell (b:=w.heap.size) rfl (j:=3) (by simp);have rf0:=oR5.frozen (b:=w.heap.size) rfl 0;have rf1:=oR5.frozen (b:=w.heap.size) rfl 1;have rf2:=oR5.frozen (b:=w.heap.size) rfl 2;have rf3:=oR5.frozen (b:=w.heap.size) rfl 3;have r0 : _ = some (Value.string { data:=#[] }):=r0;have r1 : _ = some (Value.string { data:=#[] }):=r1;have r2 : _ = some (Value.string { data:=#[] }):=r2;have r3 : _ = some (Value.int .i64 0):=r3
      go_wp2_with fail
      exact bodyPost_ret (v:=.tuple #[.agg #[.string { data:=#[] },.string { data:=#[] },.string { data:=#[] },.int .i64 0],.bool false]) (by simp [results,Tryz.results100,go_sem,r0,r1,r2,r3]) rfl ⟨by rw [HQ.out.1,HQ.out.2]; first | done | rfl,(by first | exact kw5 | exact ((((kw5.setCell (p:=⟨w.heap.size,0,none⟩) (Nat.le_refl _) _).setCell (p:=⟨w.heap.size,1,none⟩) (Nat.le_refl _) _).setCell (p:=⟨w.heap.size,2,none⟩) (Nat.le_refl _) _).setCell (p:=⟨w.heap.size,3,none⟩) (Nat.le_refl _) _))⟩
     ·have HQ:=Lib.hid (HRS.out hrk hv)
      go_wp2_with fail
      generalize (wr.alloc (.cells #[.string { data:=#[] },.string { data:=#[] },.string { data:=#[] },.int .i64 0] 69)) = v0 at *
      refine (implElementText_any R cR w1.heap.size xs (nms 0) v0 (hX.below q8) q8.size (by omega) HEV.out).mono ?_;rintro e u0 ⟨rfl,c0⟩;have o0b:=Own.below o8 c0;have q0b:=q8.trans (c0.mono q8.size);have y0:=o0b.cell rfl (j:=0) (by omega);have f0:=o0b.frozen rfl 0;have s0:=o0b.set rfl (j:=0) (.string (etOf xs (nms 0)));have q0c:=q0b.trans (grown_below s0.2 (fun b hb => by simp [blk] at hb; omega) q0b.size);have o0c:=s0.1;have y0 : _ = some (Value.string { data:=#[] }):=y0;clear s0 o8 q8
      go_wp2_with fail
      generalize (u0.setCell ⟨wr.heap.size,0,none⟩ (.string (etOf xs (nms 0)))) = v1 at *
      refine (implElementText_any R cR w1.heap.size xs (nms 1) v1 (hX.below q0c) q0c.size (by omega) HEV.out).mono ?_;rintro e u1 ⟨rfl,c1⟩;have o1b:=Own.below o0c c1;have q1b:=q0c.trans (c1.mono q0c.size);have y1:=o1b.cell rfl (j:=1) (by omega);have f1:=o1b.frozen rfl 1;have s1:=o1b.set rfl (j:=1) (.string (etOf xs (nms 1)));have q1c:=q1b.trans (grown_below s1.2 (fun b hb => by simp [blk] at hb; omega) q1b.size);have o1c:=s1.1;have y1 : _ = some (Value.string { data:=#[] }):=y1;clear s1 
      go_wp2_with fail
      generalize (u1.setCell ⟨wr.heap.size,1,none⟩ (.string (etOf xs (nms 1)))) = v2 at *
      refine (implElementText_any R cR w1.heap.size xs (nms 3) v2 (hX.below q1c) q1c.size (by omega) HEV.out).mono ?_;rintro e u2 ⟨rfl,c2⟩;have o2b:=Own.below o1c c2;have q2b:=q1c.trans (c2.mono q1c.size);have y2:=o2b.cell rfl (j:=2) (by omega);have f2:=o2b.frozen rfl 2;have s2:=o2b.set rfl (j:=2) (.string (etOf xs (nms 3)));have q2c:=q2b.trans (grown_below s2.2 (fun b hb => by simp [blk] at hb; omega) q2b.size);have o2c:=s2.1;have y2 : _ = some (Value.string { data:=#[] }):=y2;clear s2 
      go_wp2_with fail
      generalize (u2.setCell ⟨wr.heap.size,2,none⟩ (.string (etOf xs (nms 3)))) = v3 at *
      refine (implElementText_any R cR w1.heap.size xs (nms 2) v3 (hX.below q2c) q2c.size (by omega) HEV.out).mono ?_;rintro e u3 ⟨rfl,c3⟩;have o3b:=Own.below o2c c3;have q3b:=q2c.trans (c3.mono q2c.size);clear o2c q2c
      go_wp2_with fail
      refine (implReadDate_any (etOf xs (nms 2)) u3 (by have:=etOf_size xs (nms 2); unfold maxLen; omega)).mono ?_;rintro e u4 ⟨rfl,c4⟩;have o4b:=Own.below o3b c4;have q4b:=q3b.trans (c4.mono q3b.size);clear o3b q3b c3 c4;have y4:=o4b.cell rfl (j:=3) (by omega);have f4:=o4b.frozen rfl 3;have s4:=o4b.set rfl (j:=3) (.int .i64 (rdD (etOf xs (nms 2))));have q4c:=q4b.trans (grown_below s4.2 (fun b hb => by simp [blk] at hb; omega) q4b.size);have o4c:=s4.1;have y4 : _ = some (Value.int .i64 0):=y4;have d0:=o4c.cell rfl (j:=0) (by omega);have d0 : _ = some (Value.string (etOf xs (nms 0))):=d0;have g0:=o4c.frozen rfl 0;have d1:=o4c.cell rfl (j:=1) (by omega);have d1 : _ = some (Value.string (etOf xs (nms 1))):=d1;have g1:=o4c.frozen rfl 1;have d2:=o4c.cell rfl (j:=2) (by omega);have d2 : _ = some (Value.string (etOf xs (nms 3))):=d2;have g2:=o4c.frozen rfl 2;have d3:=o4c.cell rfl (j:=3) (by omega);have d3 : _ = some (Value.int .i64 (rdD (etOf xs (nms 2)))):=d3;have g3:=o4c.frozen rfl 3;clear s4 o4b q4b;have e0:=etOf_size xs (nms 0);have e1:=etOf_size xs (nms 1);have e3:=etOf_size xs (nms 3);have HCV:=Lib.hid (fun (z : World) => implItemValid_any (etOf xs (nms 0)) (etOf xs (nms 1)) (etOf xs (nms 3)) (rdD (etOf xs (nms 2))) z (by unfold maxLen; omega) (by unfold maxLen; omega) (by unfold maxLen; omega));have hv2 : ivB (etOf xs (nms 0),etOf xs (nms 1),etOf xs (nms 3),rdD (etOf xs (nms 2))) = true:=hv;rw [hv2] at HCV;clear e0 e1 e3 hv2
      go_wp2_with fail
      generalize (u4.setCell ⟨wr.heap.size,3,none⟩ (.int .i64 (rdD (etOf xs (nms 2))))) = v4 at *
      refine (HCV.out v4).mono ?_;rintro e u5 ⟨rfl,c5⟩;have q5:=q4c.trans (c5.mono q4c.size);have kw5:=k1.trans (q5.mono z1);have oR5:=Own.belowB oR1 q5 (fun b hb => by simp [blk] at hb; omega);have o5:=Own.below o4c c5;clear d0 g0;clear d1 g1;clear d2 g2;clear d3 g3;have d0:=o5.cell rfl (j:=0) (by omega);have d0 : _ = some (Value.string (etOf xs (nms 0))):=d0;have g0:=o5.frozen rfl 0;have d1:=o5.cell rfl (j:=1) (by omega);have d1 : _ = some (Value.string (etOf xs (nms 1))):=d1;have g1:=o5.frozen rfl 1;have d2:=o5.cell rfl (j:=2) (by omega);have d2 : _ = some (Value.string (etOf xs (nms 3))):=d2;have g2:=o5.frozen rfl 2;have d3:=o5.cell rfl (j:=3) (by omega);have d3 : _ = some (Value.int .i64 (rdD (etOf xs (nms 2)))):=d3;have g3:=o5.frozen rfl 3;clear o5 o4c q4c q5;have r0:=oR5.cell (b:=w.heap.size) rfl (j:=0) (by simp);have r1:=oR5.cell (b:=w.heap.size) rfl (j:=1) (by simp);have r2:=oR5.cell (b:=w.heap.size) rfl (j:=2) (by simp);have r3:=oR5.cell (b:=w.heap.size) rfl (j:=3) (by simp);have rf0:=oR5.frozen (b:=w.heap.size) rfl 0;have rf1:=oR5.frozen (b:=w.heap.size) rfl 1;have rf2:=oR5.frozen (b:=w.heap.size) rfl 2;have rf3:=oR5.frozen (b:=w.heap.size) rfl 3;have r0 : _ = some (Value.string { data:=#[] }):=r0;have r1 : _ = some (Value.string { data:=#[] }):=r1;have r2 : _ = some (Value.string { data:=#[] }):=r2;have r3 : _ = some (Value.int .i64 0):=r3
      go_wp2_with fail
      exact bodyPost_ret (v:=.tuple #[.agg #[.string (etOf xs (nms 0)),.string (etOf xs (nms 1)),.string (etOf xs (nms 3)),.int .i64 (rdD (etOf xs (nms 2)))],.bool true]) (by simp [results,Tryz.results100,go_sem,r0,r1,r2,r3]) rfl ⟨by rw [HQ.out.1,HQ.out.2]; first | done | rfl,(by first | exact kw5 | exact ((((kw5.setCell (p:=⟨w.heap.size,0,none⟩) (Nat.le_refl _) _).setCell (p:=⟨w.heap.size,1,none⟩) (Nat.le_refl _) _).setCell (p:=⟨w.heap.size,2,none⟩) (Nat.le_refl _) _).setCell (p:=⟨w.heap.size,3,none⟩) (Nat.le_refl _) _))⟩
  ·have HQ:=Lib.hid (ri_no (s:=s) (.inr (.inl (fun h => hb h.2))))
   have htn : 1 < tnOf (elOf s) (nms 3):=by omega
   clear hb;go_enter Tryz.func100,Tryz.ntmps100
   go_wp2_with fail
   generalize (w.alloc (.cells #[.string { data:=#[] },.string { data:=#[] },.string { data:=#[] },.int .i64 0] 69)) = wA at *
   have hcall:=implReadElements_any s wA hs HT.out;rw [ho] at hcall;have HC:=Lib.hid hcall;clear hcall;generalize hxs : elOf s = xs at *
   clear hxs;refine HC.out.mono ?_;rintro e w1 ⟨R,cR,rfl,oX,b1⟩;have oR1:=Own.below oR b1;have k1:=hbA.trans (b1.mono hbA.size);have z1:=k1.size;have zz1 : w.heap.size < w1.heap.size:=Nat.lt_of_lt_of_le hzA b1.size;have hX:=OwnE.rd oX;clear HC;have gt1 : decide ((1 : Int) < ((tnOf xs (nms 3) : Nat) : Int)) = true:=decide_eq_true (by omega)
   go_wp2_with fail
   refine (timesNamed_any R cR w1.heap.size xs (nms 3) w1 hX (Nat.le_refl _) (by omega)).mono ?_;rintro e w2 ⟨rfl,b2⟩;have k2:=k1.trans (b2.mono z1);have oR2:=Own.below oR1 b2;have r0:=oR2.cell (b:=w.heap.size) rfl (j:=0) (by simp);have r1:=oR2.cell (b:=w.heap.size) rfl (j:=1) (by simp);have r2:=oR2.cell (b:=w.heap.size) rfl (j:=2) (by simp);have r3:=oR2.cell (b:=w.heap.size) rfl (j:=3) (by simp);have rf0:=oR2.frozen (b:=w.heap.size) rfl 0;have rf1:=oR2.frozen (b:=w.heap.size) rfl 1;have rf2:=oR2.frozen (b:=w.heap.size) rfl 2;have rf3:=oR2.frozen (b:=w.heap.size) rfl 3;have r0 : _ = some (Value.string { data:=#[] }):=r0;have r1 : _ = some (Value.string { data:=#[] }):=r1;have r2 : _ = some (Value.string { data:=#[] }):=r2;have r3 : _ = some (Value.int .i64 0):=r3
   go_wp2_with fail
   exact bodyPost_ret (v:=.tuple #[.agg #[.string { data:=#[] },.string { data:=#[] },.string { data:=#[] },.int .i64 0],.bool false]) (by simp [results,Tryz.results100,go_sem,r0,r1,r2,r3]) rfl ⟨by rw [HQ.out.1,HQ.out.2]; first | done | rfl,(by first | exact k2 | exact ((((k2.setCell (p:=⟨w.heap.size,0,none⟩) (Nat.le_refl _) _).setCell (p:=⟨w.heap.size,1,none⟩) (Nat.le_refl _) _).setCell (p:=⟨w.heap.size,2,none⟩) (Nat.le_refl _) _).setCell (p:=⟨w.heap.size,3,none⟩) (Nat.le_refl _) _))⟩
end Go.Proofs.YtfnmlffpnmmcdaaGreatDoor
namespace Go.Proofs.YtfnmlffpnmmcdaaGreatDoor
set_option maxRecDepth 100000
open Go.RowKit
set_option maxHeartbeats 400000 in
theorem withoutAtItem_any (A : Option Addr) (cap B : Nat) (xs : List ElItem) (k : Nat) (w : World) (h : RdE 4 encItem w B A xs) (hB : B ≤ w.heap.size) (hS : Shp A xs.length cap) (hk : k < xs.length) (hl : xs.length ≤ 1000000) :
    Calls Tryz.prog 104 #[.slice A xs.length cap,.int .i64 k] w fun e w' => ∃ T cap',e = .returned (.slice T (xs.take k ++ xs.drop (k + 1)).length cap') ∧ OwnE 4 encItem 69 w' w.heap.size T cap' (xs.take k ++ xs.drop (k + 1)) ∧ Below w.heap.size w w':=by
 have hmk:=mk_run0 (P:=Tryz.prog) 30 69 _ _ _ Tryz.underlying30 info_Item (xs.length : Int) (by omega) (by omega) (by omega);rw [Int.toNat_natCast] at hmk;have hlk : (xs.take k).length = k:=by simp; omega
 have hld : (xs.drop (k + 1)).length = xs.length - (k + 1):=List.length_drop;have hcp : xs.length ≤ cap:=by rcases hS with ⟨_,h1,h2⟩ | ⟨_,_,_,h1,_⟩ <;> omega
 have sl1 : ∀ W,(Instr.slice 30 (.slice A xs.length cap) none (some (.int .i64 (k : Int))) none).run Tryz.prog W = .ok (.slice (tlA A cap 0 4) k cap) W:=fun W => run_upto Tryz.underlying30 info_Item A xs.length cap k (by omega) W
 have sl2 : ∀ W,(Instr.slice 30 (.slice A xs.length cap) (some (.int .i64 ((k : Int) + 1))) none none).run Tryz.prog W = .ok (.slice (tlA A cap (k + 1) 4) (xs.length - (k + 1)) (cap - (k + 1))) W:=fun W => run_from (k:=k + 1) Tryz.underlying30 info_Item A xs.length cap (by omega) W
 have hb0 : Below w.heap.size w (w.alloc (.cells (madeCells #[.string ByteArray.empty,.string ByteArray.empty,.string ByteArray.empty,.int .i64 0] (xs.length * 4)) 69)):=(Below.refl _ _).alloc (Nat.le_refl _) _;have hm : Own (w.alloc (.cells (madeCells #[.string ByteArray.empty,.string ByteArray.empty,.string ByteArray.empty,.int .i64 0] (xs.length * 4)) 69)) w.heap.size 69 4 (some ⟨w.heap.size,0,none⟩) 0 xs.length (cE 4 encItem ([] : List ElItem)):=Own.cap0 w 69 4 xs.length w.heap.size (madeCells #[.string ByteArray.empty,.string ByteArray.empty,.string ByteArray.empty,.int .i64 0] (xs.length * 4)) (cE 4 encItem ([] : List ElItem)) (Nat.le_refl _) (by simp only [maxLen]; omega) (size_madeCells _ _);have hr1:=(RdE.head h cap k).below (hb0.mono hB);have hr2:=(RdE.tail h hS (k + 1) (by omega)).below (hb0.mono hB);have HL:=Lib.hid hlk; have HD:=Lib.hid hld
 clear hlk hld h;go_enter Tryz.func104,Tryz.ntmps104
 go_wp2_with (first
  | (at_builtin; refine wpList_app rfl (.tmp 9) (.tmp 12) _ rfl w.heap.size 69 _ 4 56 Tryz.underlying30 info_Item rfl (by omega) (some ⟨w.heap.size,0,none⟩) (tlA A cap 0 4) 0 xs.length k cap B (cE 4 encItem ([] : List ElItem)) (cE 4 encItem (xs.take k)) rfl rfl hm (RdE.len hr1 HL.out) (fun _ _ => encItem_one _ _) (by simp only [maxLen]; omega) (by omega) hb0.size ?_; intro T1 cap1 w1 hown1 hg1; have hb1:=hb0.trans (grown_below hg1 (fun b hb => (hm.lt hb).1) hb0.size);have hown1':=OwnE.first hown1 HL.out; have hr3:=hr2.below ((grown_below hg1 (fun b hb => (hm.lt hb).1) hb0.size).mono hB);have z1:=hb1.size; clear hown1 hg1 hr1 hr2)
  | (at_builtin; refine wpList_app rfl (.tmp 14) (.tmp 18) _ rfl w.heap.size 69 _ 4 56 Tryz.underlying30 info_Item rfl (by omega) T1 (tlA A cap (k + 1) 4) k cap1 (xs.length - (k + 1)) (cap - (k + 1)) B (cE 4 encItem (xs.take k)) (cE 4 encItem (xs.drop (k + 1))) rfl (by simp [go_sem]) (OwnE.own hown1' HL.out) (RdE.len hr3 HD.out) (fun _ _ => encItem_one _ _) (by simp only [maxLen]; omega) (by omega) hb1.size ?_; intro T3 cap3 w3 hown3 hg3))
 go_ret;have hown3':=OwnE.join (by omega) HL.out HD.out hown3;exact ⟨T3,cap3,by rw [List.length_append,HL.out,HD.out]; rfl,hown3',hb1.trans (grown_below hg3 (fun b hb => (Own.lt hown1' hb).1) hb1.size)⟩
end Go.Proofs.YtfnmlffpnmmcdaaGreatDoor
namespace Go.Proofs.YtfnmlffpnmmcdaaGreatDoor
set_option maxRecDepth 100000
open Go.RowKit
set_option maxHeartbeats 800000 in
theorem implFollow_any (A : Option Addr) (cap B : Nat) (ps : List ElHandle) (p : ElHandle) (w : World) (h : RdE 2 encHandle w B A ps) (hB : B ≤ w.heap.size) (hl : ps.length ≤ 140737488351232) (hS : Shp A ps.length cap) (hsz : ∀ k,k < ps.length → (gt ps k).1.size ≤ maxLen ∧ (gt ps k).2.size ≤ maxLen) (hp : p.1.size ≤ maxLen ∧ p.2.size ≤ maxLen) :
    Calls Tryz.prog 52 #[.slice A ps.length cap,.agg #[.string p.1,.string p.2]] w fun e w' => ∃ T' cap',e = .returned (.tuple #[.slice T' (folOf ps p).length cap',.bool (folOk ps p)]) ∧ OwnE 2 encHandle 29 w' w.heap.size T' cap' (folOf ps p) ∧ Below w.heap.size w w':=by
 have HSZ:=Lib.hid hsz;have HSI:=Lib.hid (insF_sz hsz hp);clear hsz hp;have hbA : Below w.heap.size w (w.alloc (.cells #[.string p.1,.string p.2] 29)):=(Below.refl _ _).alloc (Nat.le_refl _) _;have hpA0 : (w.alloc (.cells #[.string p.1,.string p.2] 29)).cell? ⟨w.heap.size,0,none⟩ = some (.string p.1):=by rw [World.cell?_alloc_at _ _ _ _ rfl]; rfl
 have hpA1 : (w.alloc (.cells #[.string p.1,.string p.2] 29)).cell? ⟨w.heap.size,1,none⟩ = some (.string p.2):=by rw [World.cell?_alloc_at _ _ _ _ rfl]; rfl
 have hzA : (w.alloc (.cells #[.string p.1,.string p.2] 29)).heap.size = w.heap.size + 1:=by simp
 by_cases hv : fvB ps = true
 ·have h10:=(Fv.of hv).1
  go_enter Tryz.func52,Tryz.ntmps52
  go_wp2_with fail
  have HZ:=Lib.hid hzA; clear hzA
  generalize (w.alloc (.cells #[.string p.1,.string p.2] 29)) = wA at *
  refine (implFollowersValid_any _ _ B ps wA (h.below (hbA.mono hB)) (Nat.le_trans hB hbA.size) hl HSZ.out).mono ?_;rintro e w1 ⟨rfl,hb1⟩;have hb1' : Below (w.heap.size + 1) wA w1:=hb1.mono (by rw [HZ.out]; exact Nat.le_refl _);have hsA : w.heap.size + 1 ≤ wA.heap.size:=by rw [HZ.out]; exact Nat.le_refl _
  go_wp2_with fail
  go_loopw [6] (fun i wr => ∃ k : Nat,k ≤ ps.length ∧ Hid (∀ j,j < k → hbB (gt ps j) p = true) ∧ i = .int .i64 k ∧ Below (w.heap.size + 1) wA wr) (fun i _ => ps.length - (intOf i).toNat)
  case atStart => exact ⟨0,Nat.zero_le _,Lib.hid (fun j hj => absurd hj (by omega)),rfl,hb1'⟩
  case round =>
   clear hb1 hb1';obtain ⟨k,hk,hbe,rfl,hbl⟩:=hrel;have hsz:=hbl.size;have q0 : wr.cell? ⟨w.heap.size,0,none⟩ = some (.string p.1):=(hbl.cell (p:=⟨w.heap.size,0,none⟩) (by show w.heap.size < w.heap.size + 1; omega)).trans hpA0;have q1 : wr.cell? ⟨w.heap.size,1,none⟩ = some (.string p.2):=(hbl.cell (p:=⟨w.heap.size,1,none⟩) (by show w.heap.size < w.heap.size + 1; omega)).trans hpA1;have hrr : RdE 2 encHandle wr B A ps:=(h.below (hbA.mono hB)).below (hbl.mono (by omega));have hbw : Below w.heap.size w wr:=hbA.trans (hbl.mono (by omega));by_cases hgo : k < ps.length ∧ hbB (gt ps k) p = true
   ·obtain ⟨hlt,hbf⟩:=hgo
    obtain ⟨b,off,rfl,hb,hc⟩:=hrr.at_ (by omega);have c0 : wr.cell? ⟨b,off + k * 2,none⟩ = some (Value.string ((gt ps k).1)):=hc k 0 (by omega) (by omega);have c1 : wr.cell? ⟨b,off + k * 2 + 1,none⟩ = some (Value.string ((gt ps k).2)):=hc k 1 (by omega) (by omega);have hlt2 : decide ((k : Int) < (ps.length : Int)) = true:=by simp [hlt]
    have hlt3 : decide (k < ps.length) = true:=by simp [hlt]
    have hbf' : hbB ((gt ps k).1,(gt ps k).2) (p.1,p.2) = true:=hbf
    have HN:=Lib.hid (fun j (hj : j < k + 1) => by
     rcases Nat.lt_succ_iff_lt_or_eq.1 hj with h1 | rfl
     ·exact hbe.out j h1
     ·exact hbf : ∀ j,j < k + 1 → hbB (gt ps j) p = true)
    clear hc hbf hrr
    go_wp2_with fail
    refine wp_region_still_tail 10 (by kernel_rfl) (by kernel_rfl) ?_;simp only [List.take_succ_cons,List.take_zero,List.drop_succ_cons,List.drop_zero]
    repeat still_step
    refine wpStill_nil ?_
    go_wp2_with (go_at_call 105; refine (implHandleBefore_any _ _ _ _ _).mono ?_; rintro e w2 ⟨rfl,hb2⟩)
    go_roundw
    case rel => exact ⟨k + 1,by omega,HN,by go_num,hbl.trans (((below_drew1 wr).trans hb2).mono (by show w.heap.size + 1 ≤ wr.heap.size; omega))⟩
    case measure => simp [intOf]; omega
   ·have hpos : posF ps p = k:=posF_eq ps p k hk hbe.out (fun hlt => by
       cases hq : hbB (gt ps k) p
       ·rfl
       ·exact absurd ⟨hlt,hq⟩ hgo)
    have HP:=Lib.hid hpos;have hins : Hid (insF ps p = ps.take k ++ [p] ++ ps.drop k):=Lib.hid (by rw [insF,hpos]);clear hpos;have hinl : (insF ps p).length ≤ 11:=by rw [insF_len]; omega
    by_cases hlt : k < ps.length
    ·have hbf : hbB (gt ps k) p = false:=by
        cases hq : hbB (gt ps k) p
        ·rfl
        ·exact absurd ⟨hlt,hq⟩ hgo
     obtain ⟨b,off,hAe,hb,hc⟩:=hrr.at_ (by omega);have c0 : wr.cell? ⟨b,off + k * 2,none⟩ = some (Value.string ((gt ps k).1)):=hc k 0 (by omega) (by omega);have c1 : wr.cell? ⟨b,off + k * 2 + 1,none⟩ = some (Value.string ((gt ps k).2)):=hc k 1 (by omega) (by omega);have hlt2 : decide ((k : Int) < (ps.length : Int)) = true:=by simp [hlt]
     have hlt3 : decide (k < ps.length) = true:=by simp [hlt]
     have hbf' : hbB ((gt ps k).1,(gt ps k).2) (p.1,p.2) = false:=hbf;subst hAe;clear hc hbf hgo
     go_wp2_with fail
     refine wp_region_still_tail 10 (by kernel_rfl) (by kernel_rfl) ?_;simp only [List.take_succ_cons,List.take_zero,List.drop_succ_cons,List.drop_zero]
     repeat still_step
     refine wpStill_nil ?_
     go_wp2_with (go_at_call 105; refine (implHandleBefore_any _ _ _ _ _).mono ?_; rintro e w2 ⟨rfl,hb2⟩; have hb2' : Below (w.heap.size + 1) wr w2:=((below_drew1 wr).trans hb2).mono (by show w.heap.size + 1 ≤ wr.heap.size; omega);have s0:=(hb2'.cell (p:=⟨w.heap.size,0,none⟩) (by show w.heap.size < w.heap.size + 1; omega)).trans q0; have s1:=(hb2'.cell (p:=⟨w.heap.size,1,none⟩) (by show w.heap.size < w.heap.size + 1; omega)).trans q1)
     have hr2:=hrr.below (hb2'.mono (by omega));have hbw2:=hbw.trans (hb2'.mono (by omega));have hsz2 : w.heap.size + 1 ≤ w2.heap.size:=Nat.le_trans (by omega) hb2'.size;clear c0 c1 q0 q1 hlt2 hlt3 hbf' hb2 hb2' hrr hbw hbl
     go_wp2_with fail
     have hcall:=withAtHandle_any _ _ B ps k p w2 hr2 (by omega) hS hk (by omega);rw [← hins.out] at hcall;refine hcall.mono ?_;clear hcall;rintro e w5 ⟨T,cap5,rfl,ho5,hb5⟩;have hr5:=hr2.below (hb5.mono (by omega));have hs5:=hb5.size;have c5:=hbw2.trans (hb5.mono (by omega));by_cases hv2 : fvB (insF ps p) = true
     ·have HE:=Lib.hid (folOf_yes hv hv2)
      go_wp2_with (go_at_call 66; refine (implFollowersValid_any _ _ _ (insF ps p) w5 ho5.rd (Nat.le_refl _) (by omega) HSI.out).mono ?_; rintro e w6 ⟨rfl,hb6⟩)
      go_ret2;rw [HE.out.1,HE.out.2];exact ⟨T,cap5,rfl,Own.more (Own.below ho5 hb6) (by omega),c5.trans (hb6.mono (by omega))⟩
     ·have hv2' : fvB (insF ps p) = false:=by simpa using hv2
      have HE:=Lib.hid (folOf_no hv hv2');clear hv2
      go_wp2_with (first
       | (go_at_call 66; refine (implFollowersValid_any _ _ _ (insF ps p) w5 ho5.rd (Nat.le_refl _) (by omega) HSI.out).mono ?_; rintro e w6 ⟨rfl,hb6⟩; have hs6:=hb6.size)
       | (go_at_call 96; refine (copyOfHandle_any _ _ B ps w6 (hr5.below (hb6.mono (by omega))) (by omega)).mono ?_; rintro e w7 ⟨T7,cap7,rfl,ho7,hb7⟩))
      go_ret2;rw [HE.out.1,HE.out.2];exact ⟨T7,cap7,rfl,Own.more ho7 (by omega),(c5.trans (hb6.mono (by omega))).trans (hb7.mono (by omega))⟩
    ·have hlt2 : decide ((k : Int) < (ps.length : Int)) = false:=by simp; omega
     have hlt3 : decide (k < ps.length) = false:=by simp; omega
     clear hgo
     go_wp2_with fail
     go_quiet (fail)
     have s0 : (wr.drewN nq).cell? ⟨w.heap.size,0,none⟩ = some (.string p.1):=q0;have s1 : (wr.drewN nq).cell? ⟨w.heap.size,1,none⟩ = some (.string p.2):=q1;have hr2 : RdE 2 encHandle (wr.drewN nq) B A ps:=hrr;have hbw2:=below_drewN hbw nq;have hsz2 : w.heap.size + 1 ≤ (wr.drewN nq).heap.size:=by show w.heap.size + 1 ≤ wr.heap.size; omega
     clear q0 q1 hlt2 hlt3 hrr hbw hbl;generalize wr.drewN nq = w2 at *
     go_wp2_with fail
     have hcall:=withAtHandle_any _ _ B ps k p w2 hr2 (by omega) hS hk (by omega);rw [← hins.out] at hcall;refine hcall.mono ?_;clear hcall;rintro e w5 ⟨T,cap5,rfl,ho5,hb5⟩;have hr5:=hr2.below (hb5.mono (by omega));have hs5:=hb5.size;have c5:=hbw2.trans (hb5.mono (by omega));by_cases hv2 : fvB (insF ps p) = true
     ·have HE:=Lib.hid (folOf_yes hv hv2)
      go_wp2_with (go_at_call 66; refine (implFollowersValid_any _ _ _ (insF ps p) w5 ho5.rd (Nat.le_refl _) (by omega) HSI.out).mono ?_; rintro e w6 ⟨rfl,hb6⟩)
      go_ret2;rw [HE.out.1,HE.out.2];exact ⟨T,cap5,rfl,Own.more (Own.below ho5 hb6) (by omega),c5.trans (hb6.mono (by omega))⟩
     ·have hv2' : fvB (insF ps p) = false:=by simpa using hv2
      have HE:=Lib.hid (folOf_no hv hv2');clear hv2
      go_wp2_with (first
       | (go_at_call 66; refine (implFollowersValid_any _ _ _ (insF ps p) w5 ho5.rd (Nat.le_refl _) (by omega) HSI.out).mono ?_; rintro e w6 ⟨rfl,hb6⟩; have hs6:=hb6.size)
       | (go_at_call 96; refine (copyOfHandle_any _ _ B ps w6 (hr5.below (hb6.mono (by omega))) (by omega)).mono ?_; rintro e w7 ⟨T7,cap7,rfl,ho7,hb7⟩))
      go_ret2;rw [HE.out.1,HE.out.2];exact ⟨T7,cap7,rfl,Own.more ho7 (by omega),(c5.trans (hb6.mono (by omega))).trans (hb7.mono (by omega))⟩
 ·have hv' : fvB ps = false:=by simpa using hv
  obtain ⟨e1,e2⟩:=folOf_bad (p:=p) hv';rw [e1,e2];clear hv e1 e2;go_enter Tryz.func52,Tryz.ntmps52
  go_wp2_with (go_at_call 66; refine (implFollowersValid_any _ _ B ps _ (h.below (hbA.mono hB)) (Nat.le_trans hB hbA.size) hl HSZ.out).mono ?_; rintro e w1 ⟨rfl,hb1⟩)
  go_ret2;exact ⟨none,0,rfl,Own.nil _ _ _ _ _,hbA.trans (hb1.mono hbA.size)⟩
end Go.Proofs.YtfnmlffpnmmcdaaGreatDoor
namespace Go.Proofs.YtfnmlffpnmmcdaaGreatDoor
set_option maxRecDepth 100000
open Go.RowKit
set_option maxHeartbeats 400000 in
theorem withoutAtHandle_any (A : Option Addr) (cap B : Nat) (xs : List ElHandle) (k : Nat) (w : World) (h : RdE 2 encHandle w B A xs) (hB : B ≤ w.heap.size) (hS : Shp A xs.length cap) (hk : k < xs.length) (hl : xs.length ≤ 1000000) :
    Calls Tryz.prog 108 #[.slice A xs.length cap,.int .i64 k] w fun e w' => ∃ T cap',e = .returned (.slice T (xs.take k ++ xs.drop (k + 1)).length cap') ∧ OwnE 2 encHandle 29 w' w.heap.size T cap' (xs.take k ++ xs.drop (k + 1)) ∧ Below w.heap.size w w':=by
 have hmk:=mk_run0 (P:=Tryz.prog) 31 29 _ _ _ Tryz.underlying31 info_Handle (xs.length : Int) (by omega) (by omega) (by omega);rw [Int.toNat_natCast] at hmk;have hlk : (xs.take k).length = k:=by simp; omega
 have hld : (xs.drop (k + 1)).length = xs.length - (k + 1):=List.length_drop;have hcp : xs.length ≤ cap:=by rcases hS with ⟨_,h1,h2⟩ | ⟨_,_,_,h1,_⟩ <;> omega
 have sl1 : ∀ W,(Instr.slice 31 (.slice A xs.length cap) none (some (.int .i64 (k : Int))) none).run Tryz.prog W = .ok (.slice (tlA A cap 0 2) k cap) W:=fun W => run_upto Tryz.underlying31 info_Handle A xs.length cap k (by omega) W
 have sl2 : ∀ W,(Instr.slice 31 (.slice A xs.length cap) (some (.int .i64 ((k : Int) + 1))) none none).run Tryz.prog W = .ok (.slice (tlA A cap (k + 1) 2) (xs.length - (k + 1)) (cap - (k + 1))) W:=fun W => run_from (k:=k + 1) Tryz.underlying31 info_Handle A xs.length cap (by omega) W
 have hb0 : Below w.heap.size w (w.alloc (.cells (madeCells #[.string ByteArray.empty,.string ByteArray.empty] (xs.length * 2)) 29)):=(Below.refl _ _).alloc (Nat.le_refl _) _;have hm : Own (w.alloc (.cells (madeCells #[.string ByteArray.empty,.string ByteArray.empty] (xs.length * 2)) 29)) w.heap.size 29 2 (some ⟨w.heap.size,0,none⟩) 0 xs.length (cE 2 encHandle ([] : List ElHandle)):=Own.cap0 w 29 2 xs.length w.heap.size (madeCells #[.string ByteArray.empty,.string ByteArray.empty] (xs.length * 2)) (cE 2 encHandle ([] : List ElHandle)) (Nat.le_refl _) (by simp only [maxLen]; omega) (size_madeCells _ _);have hr1:=(RdE.head h cap k).below (hb0.mono hB);have hr2:=(RdE.tail h hS (k + 1) (by omega)).below (hb0.mono hB);have HL:=Lib.hid hlk; have HD:=Lib.hid hld
 clear hlk hld h;go_enter Tryz.func108,Tryz.ntmps108
 go_wp2_with (first
  | (at_builtin; refine wpList_app rfl (.tmp 9) (.tmp 12) _ rfl w.heap.size 29 _ 2 32 Tryz.underlying31 info_Handle rfl (by omega) (some ⟨w.heap.size,0,none⟩) (tlA A cap 0 2) 0 xs.length k cap B (cE 2 encHandle ([] : List ElHandle)) (cE 2 encHandle (xs.take k)) rfl rfl hm (RdE.len hr1 HL.out) (fun _ _ => encHandle_one _ _) (by simp only [maxLen]; omega) (by omega) hb0.size ?_; intro T1 cap1 w1 hown1 hg1; have hb1:=hb0.trans (grown_below hg1 (fun b hb => (hm.lt hb).1) hb0.size);have hown1':=OwnE.first hown1 HL.out; have hr3:=hr2.below ((grown_below hg1 (fun b hb => (hm.lt hb).1) hb0.size).mono hB);have z1:=hb1.size; clear hown1 hg1 hr1 hr2)
  | (at_builtin; refine wpList_app rfl (.tmp 14) (.tmp 18) _ rfl w.heap.size 29 _ 2 32 Tryz.underlying31 info_Handle rfl (by omega) T1 (tlA A cap (k + 1) 2) k cap1 (xs.length - (k + 1)) (cap - (k + 1)) B (cE 2 encHandle (xs.take k)) (cE 2 encHandle (xs.drop (k + 1))) rfl (by simp [go_sem]) (OwnE.own hown1' HL.out) (RdE.len hr3 HD.out) (fun _ _ => encHandle_one _ _) (by simp only [maxLen]; omega) (by omega) hb1.size ?_; intro T3 cap3 w3 hown3 hg3))
 go_ret;have hown3':=OwnE.join (by omega) HL.out HD.out hown3;exact ⟨T3,cap3,by rw [List.length_append,HL.out,HD.out]; rfl,hown3',hb1.trans (grown_below hg3 (fun b hb => (Own.lt hown1' hb).1) hb1.size)⟩
end Go.Proofs.YtfnmlffpnmmcdaaGreatDoor
namespace Go.Proofs.YtfnmlffpnmmcdaaGreatDoor
set_option maxRecDepth 100000
open Go.RowKit
set_option maxHeartbeats 800000 in
theorem indexHandle_any (A : Option Addr) (cap B : Nat) (fs : List ElHandle) (h : ElHandle) (w : World) (hr : RdE 2 encHandle w B A fs) (hB : B ≤ w.heap.size) (hl : fs.length ≤ 140737488351232) :
    Calls Tryz.prog 107 #[.slice A fs.length cap,.agg #[.string h.1,.string h.2]] w fun e w' => e = .returned (.int .i64 (ix (isH h) fs)) ∧ Below w.heap.size w w':=by
 have e0 : (w.alloc (.cells #[.string h.1,.string h.2] 29)).cell? ⟨w.heap.size,0,none⟩ = some (.string h.1):=by rw [World.cell?_alloc_at _ _ _ _ rfl]; rfl
 have e1 : (w.alloc (.cells #[.string h.1,.string h.2] 29)).cell? ⟨w.heap.size,1,none⟩ = some (.string h.2):=by rw [World.cell?_alloc_at _ _ _ _ rfl]; rfl
 have kA : Below w.heap.size w (w.alloc (.cells #[.string h.1,.string h.2] 29)):=(Below.refl _ _).alloc (Nat.le_refl _) _;have zA : w.heap.size < (w.alloc (.cells #[.string h.1,.string h.2] 29)).heap.size:=by simp
 go_enter Tryz.func107,Tryz.ntmps107
 go_wp2_with fail
 generalize (w.alloc (.cells #[.string h.1,.string h.2] 29)) = wA at *
 go_loopw [5,8] (fun _ i wr => ∃ k : Nat,k ≤ fs.length ∧ Hid (∀ j,j < k → isH h (gt fs j) = false) ∧ i = .int .i64 k ∧ Below wA.heap.size wA wr) (fun _ i _ => fs.length - (intOf i).toNat)
 case atStart => exact ⟨0,Nat.zero_le _,Lib.hid (fun j hj => absurd hj (by omega)),rfl,Below.refl _ _⟩
 case round =>
  obtain ⟨k,hk,hno,rfl,hbA⟩:=hrel;have hbl:=kA.trans (hbA.mono kA.size);by_cases hlt : k < fs.length
  ·have g0:=(hbA.cell (p:=⟨w.heap.size,0,none⟩) (by exact zA)).trans e0
   have g1:=(hbA.cell (p:=⟨w.heap.size,1,none⟩) (by exact zA)).trans e1;obtain ⟨b,off,rfl,hb,hc⟩:=(hr.below (hbl.mono hB)).at_ (by omega);have c0 : wr.cell? ⟨b,off + k * 2,none⟩ = some (Value.string (gt fs k).1):=hc k 0 (by omega) (by omega);have c1 : wr.cell? ⟨b,off + k * 2 + 1,none⟩ = some (Value.string (gt fs k).2):=hc k 1 (by omega) (by omega);clear hc e0 e1;have heql:=fun w' => eql_Handle h.1 h.2 (gt fs k).1 (gt fs k).2 w'
   have hgd:=guard_Handle;cases hq : isH h (gt fs k)
   ·have hn : eqEl (α:=ElHandle) (h.1,h.2) ((gt fs k).1,(gt fs k).2) = false:=by
       unfold isH eqEl at hq;exact decide_eq_false (fun e => of_decide_eq_false hq e.symm)
    go_wp2_with fail
    go_quiet (fail)
    go_wp2_with fail
    go_roundw
    case rel => exact ⟨k + 1,by omega,Lib.hid (fun j hj => by
        rcases Nat.lt_succ_iff_lt_or_eq.1 hj with h1 | rfl
        ·exact hno.out j h1
        ·exact hq),by go_num,below_drewN hbA _⟩
    case measure => simp [intOf]; omega
   ·have hn : eqEl (α:=ElHandle) (h.1,h.2) ((gt fs k).1,(gt fs k).2) = true:=by
       unfold isH eqEl at hq;exact decide_eq_true (of_decide_eq_true hq).symm
    have HQ:=Lib.hid (ix_at hlt hno.out hq);clear hq
    go_wp2_with fail
    go_quiet (fail)
    go_wp2_with fail
    go_ret;exact ⟨ret_int HQ.out.symm,below_drewN hbl _⟩
  ·obtain rfl : k = fs.length:=by omega
   go_wp2_with fail
   go_ret;exact ⟨ret_int (ix_none hno.out).symm,hbl⟩
set_option maxHeartbeats 1600000 in
theorem implUnfollow_any (A : Option Addr) (cap B : Nat) (fs : List ElHandle) (h : ElHandle) (w : World) (hr : RdE 2 encHandle w B A fs) (hB : B ≤ w.heap.size) (hS : Shp A fs.length cap) (hv : fvB fs = true) :
    Calls Tryz.prog 53 #[.slice A fs.length cap,.agg #[.string h.1,.string h.2]] w fun e w' => ∃ T' cap',e = .returned (.tuple #[.slice T' (ufOf fs h).length cap',.bool (ufOk fs h)]) ∧ OwnE 2 encHandle 29 w' w.heap.size T' cap' (ufOf fs h) ∧ Below w.heap.size w w':=by
 have h10:=(Fv.of hv).1;have HV:=Lib.hid hv;clear hv;have e0 : (w.alloc (.cells #[.string h.1,.string h.2] 29)).cell? ⟨w.heap.size,0,none⟩ = some (.string h.1):=by rw [World.cell?_alloc_at _ _ _ _ rfl]; rfl
 have e1 : (w.alloc (.cells #[.string h.1,.string h.2] 29)).cell? ⟨w.heap.size,1,none⟩ = some (.string h.2):=by rw [World.cell?_alloc_at _ _ _ _ rfl]; rfl
 have kA : Below w.heap.size w (w.alloc (.cells #[.string h.1,.string h.2] 29)):=(Below.refl _ _).alloc (Nat.le_refl _) _;have zA : w.heap.size < (w.alloc (.cells #[.string h.1,.string h.2] 29)).heap.size:=by simp
 go_enter Tryz.func53,Tryz.ntmps53
 go_wp2_with fail
 generalize (w.alloc (.cells #[.string h.1,.string h.2] 29)) = wA at *
 refine (implFollowersValid_any A cap B fs wA (hr.below (kA.mono hB)) (Nat.le_trans hB kA.size) (by omega) (fv_sz HV.out)).mono ?_;rintro e w1 ⟨rfl,b1⟩;rw [HV.out];have k1:=kA.trans (b1.mono kA.size);have g0:=(b1.cell (p:=⟨w.heap.size,0,none⟩) (by exact zA)).trans e0;have g1:=(b1.cell (p:=⟨w.heap.size,1,none⟩) (by exact zA)).trans e1;clear e0 e1 b1 kA
 go_wp2_with fail
 refine (indexHandle_any A cap B fs h w1 (hr.below (k1.mono hB)) (Nat.le_trans hB k1.size) (by omega)).mono ?_;rintro e w2 ⟨rfl,b2⟩;have k2:=k1.trans (b2.mono k1.size);have hr2:=hr.below (k2.mono hB);clear g0 g1 b2 k1;rcases ix_cases (p:=isH h) (xs:=fs) with ⟨hx,_⟩ | ⟨k,hk,hx,_⟩
 ·rw [hx]
  have HQ:=Lib.hid (uf_no hx);clear hx
  go_wp2_with fail
  refine (copyOfHandle_any A cap B fs w2 hr2 (by omega)).mono ?_;rintro e w3 ⟨R,c,rfl,o3,b3⟩
  go_wp2_with fail
  go_ret2;rw [HQ.out.1,HQ.out.2];exact ⟨R,c,rfl,Own.more o3 k2.size,k2.trans (b3.mono k2.size)⟩
 ·rw [hx]
  have HQ:=Lib.hid (uf_at HV.out hx);have gk : decide ((k : Int) < 0) = false:=decide_eq_false (by omega);clear hx
  go_wp2_with fail
  have hwo:=withoutAtHandle_any A cap B fs k w2 hr2 (Nat.le_trans hB k2.size) hS hk (by omega);rw [← HQ.out.2.1] at hwo;refine hwo.mono ?_;rintro e w3 ⟨R,c,rfl,o3,b3⟩
  go_wp2_with fail
  go_ret2;rw [HQ.out.2.2];exact ⟨R,c,rfl,Own.more o3 k2.size,k2.trans (b3.mono k2.size)⟩
end Go.Proofs.YtfnmlffpnmmcdaaGreatDoor
