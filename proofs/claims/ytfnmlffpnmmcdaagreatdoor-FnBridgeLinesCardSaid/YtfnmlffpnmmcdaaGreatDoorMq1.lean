/- Parts of the proof, merged: PostsPlain Base Words Own Elems Range Keyed TextPlain First MarkPlain EscPlain ShelfBr RegB EscA EscB TextV EscC EscD SpecWord. -/
import Derived.Test.YtfnmlffpnmmcdaaGreatDoorRows
import Derived.WalkKit
import Derived.WalkSpells
import Derived.WalkLawsBesides
import Derived.BigQuiet
import Derived.Deep.QuietTactic
import Derived.Lib.Hide
import Derived.Maps.AppendAt
import Derived.Deep.AppendLies
import Derived.StillTailTactics
import Derived.Lib.Bytealg
import Derived.Lib.IndexLaws
import Derived.Lib.Strings
import Derived.Shelf.Strings.OnBuilder
import Derived.Shelf.Small.Strs
import Derived.Shelf.Strings.Search1
import Derived.Shelf.Strings.Search2
import Derived.Shelf.Strings.Prefix
import Derived.Test.YtfnmlffpnmmcdaaGreatDoorProg
namespace Go.Proofs.YtfnmlffpnmmcdaaGreatDoor.PP
set_option maxRecDepth 100000
def at_ (xs : List Int) (k : Nat) : Int:=xs[k]?.getD 0
end Go.Proofs.YtfnmlffpnmmcdaaGreatDoor.PP
namespace Go.Proofs.YtfnmlffpnmmcdaaGreatDoor
set_option maxRecDepth 100000
open Go.RowKit

def Rd (w : World) (B sz : Nat) (A : Option Addr) (n : Nat) (f : Nat → Value) : Prop :=
 0 < n → ∃ b off,A = some ⟨b,off,none⟩ ∧ b < B ∧ ∀ j,j < n * sz → w.cell? ⟨b,off + j,none⟩ = some (f j)

section
variable {w w' : World} {B B' sz n : Nat} {A : Option Addr} {f : Nat → Value}
theorem Rd.keep (h : Rd w B sz A n f) (hk : ∀ p : Addr,p.block < B → w'.cell? p = w.cell? p) : Rd w' B sz A n f:=fun hn => by
 obtain ⟨b,off,e,hb,hc⟩:=h hn;exact ⟨b,off,e,hb,fun j hj => (hk _ hb).trans (hc j hj)⟩
theorem Rd.more (h : Rd w B sz A n f) (hB : B ≤ B') : Rd w B' sz A n f:=fun hn => by
 obtain ⟨b,off,e,hb,hc⟩:=h hn;exact ⟨b,off,e,by omega,hc⟩
theorem Rd.below (h : Rd w B sz A n f) (hb : Below B w w') : Rd w' B sz A n f:=h.keep fun _ hp => hb.cell hp
theorem Rd.drewN (h : Rd w B sz A n f) (k : Nat) : Rd (w.drewN k) B sz A n f:=h
end

def RdI (w : World) (B : Nat) (A : Option Addr) (xs : List Int) : Prop:=Rd w B 1 A xs.length fun j => .int .i64 (PP.at_ xs j)

section
variable {w w' : World} {B B' : Nat} {A : Option Addr} {xs : List Int}
theorem RdI.at_ (h : RdI w B A xs) (hn : 0 < xs.length) : ∃ b off,A = some ⟨b,off,none⟩ ∧ b < B ∧ ∀ j,j < xs.length → w.cell? ⟨b,off + j,none⟩ = some (.int .i64 (PP.at_ xs j)):=by
 obtain ⟨b,off,e,hb,hc⟩:=h hn;exact ⟨b,off,e,hb,fun j hj => hc j (by omega)⟩
theorem RdI.below (h : RdI w B A xs) (hb : Below B w w') : RdI w' B A xs:=Rd.below h hb
theorem RdI.more (h : RdI w B A xs) (hB : B ≤ B') : RdI w B' A xs:=Rd.more h hB
theorem RdI.alloc (h : RdI w B A xs) (hB : B ≤ w.heap.size) (o : Obj) : RdI (w.alloc o) B A xs:=h.below ((Below.refl _ _).alloc hB o)
theorem RdI.nil : RdI w B A []:=fun h => absurd h (by simp)
end
theorem ret_bool {a b : Bool} (h : a = b) : Ending.returned (.bool a) = .returned (.bool b):=by rw [h]
theorem ret_int {k : IntKind} {a b : Int} (h : a = b) : Ending.returned (.int k a) = .returned (.int k b):=by rw [h]

def rowC (f : Nat → Value) (tot : Nat) : Array Value:=(Array.range tot).map f
theorem rowC_size (f : Nat → Value) (tot : Nat) : (rowC f tot).size = tot:=by simp [rowC]
theorem mk_run {P : Program} (t e : TypeId) (z : Value) (size bytes : Nat) (ht : P.underlying t = some (.slice e)) (hinfo : (P.info? e).map (fun i => (i.zero,i.size,i.bytes)) = some (some z,size,bytes))
    (n : Nat) (hbytes : bytes * n ≤ 281474976710656) (h63 : n ≤ 9223372036854775807) (w : World) :
    (Instr.makeSlice t (.int .i64 (n : Int)) (.int .i64 (n : Int))).run P w = .ok (.slice (some ⟨w.heap.size,0,none⟩) n n) (w.alloc (.cells (madeCells z.cells (n * size)) e)):=by
 obtain ⟨i,hi,hz,hs,hb⟩:=info_parts hinfo;have hb' : (i.bytes : Int) * (n : Int) ≤ 281474976710656:=by
  have h : ((i.bytes * n : Nat) : Int) ≤ 281474976710656:=by rw [hb]; omega
  rwa [Int.natCast_mul] at h
 have hr:=run_make (P:=P) w t e i z ht hi hz .i64 .i64 n n (by omega) (by omega) hb' (by omega);simp only [Int.toNat_natCast,hs] at hr;exact hr
theorem mk_run0 {P : Program} (t e : TypeId) (z : Value) (size bytes : Nat) (ht : P.underlying t = some (.slice e)) (hinfo : (P.info? e).map (fun i => (i.zero,i.size,i.bytes)) = some (some z,size,bytes))
    (c : Int) (h0 : 0 ≤ c) (hbytes : (bytes : Int) * c ≤ 281474976710656) (h63 : c ≤ 9223372036854775807) (w : World) :
    (Instr.makeSlice t (.int .i64 0) (.int .i64 c)).run P w = .ok (.slice (some ⟨w.heap.size,0,none⟩) 0 c.toNat) (w.alloc (.cells (madeCells z.cells (c.toNat * size)) e)):=by
 obtain ⟨i,hi,hz,hs,hb⟩:=info_parts hinfo;have hr:=run_make (P:=P) w t e i z ht hi hz .i64 .i64 0 c (by omega) h0 (by rw [hb]; exact hbytes) h63;rw [hs] at hr;exact hr
def bb (s : ByteArray) (k : Nat) : Int:=if h : k < s.size then (s[k].toNat : Int) else 0
theorem bb_eq (s : ByteArray) (k : Nat) (h : k < s.size) : (s[k].toNat : Int) = bb s k:=by unfold bb; rw [dif_pos h]
theorem bb_rng (s : ByteArray) (k : Nat) : 0 ≤ bb s k ∧ bb s k ≤ 255:=by
 unfold bb
 split
 ·have:=s[k].toNat_lt; omega
 ·omega
def dg (c : Int) : Int:=if 48 ≤ c ∧ c ≤ 57 then c - 48 else if 97 ≤ c ∧ c ≤ 122 then c - 97 + 10 else -1
theorem dg_one {c : Int} (h0 : 48 ≤ c) (h1 : c ≤ 57) : dg c = c - 48:=by unfold dg; rw [if_pos ⟨h0,h1⟩]
theorem dg_two {c : Int} (h0 : 97 ≤ c) (h1 : c ≤ 122) : dg c = c - 97 + 10:=by unfold dg; rw [if_neg (by omega),if_pos ⟨h0,h1⟩]
theorem dg_no {c : Int} (h : c < 48 ∨ 57 < c) (h' : c < 97 ∨ 122 < c) : dg c = -1:=by unfold dg; rw [if_neg (by omega),if_neg (by omega)]
theorem dg_lo (c : Int) : -1 ≤ dg c:=by
 unfold dg
 repeat' split
 all_goals omega
theorem digitValue_any (c : Int) (h0 : 0 ≤ c) (h1 : c ≤ 255) (w : World) : Calls Tryz.prog 116 #[.int .u8 c] w fun e w' => e = .returned (.int .i64 (dg c)) ∧ w = w':=by
 go_enter Tryz.func116,Tryz.ntmps116
 go_wp2
 all_goals go_ret
 all_goals exact ⟨ret_int (by first | rw [dg_one (by omega) (by omega)] | rw [dg_two (by omega) (by omega)] | rw [dg_no (by omega) (by omega)]),rfl⟩
def wok (c : Int) : Prop:=(48 ≤ c ∧ c ≤ 57) ∨ (97 ≤ c ∧ c ≤ 122)
theorem dg_wok {c : Int} : 0 ≤ dg c ↔ wok c:=by
 unfold dg wok
 split
 ·omega
 ·split <;> omega
def wokTo (s : ByteArray) (k : Nat) : Prop:=∀ j,j < k → wok (bb s j)
def Word (s : ByteArray) : Prop:=1 ≤ s.size ∧ s.size ≤ 8 ∧ 97 ≤ bb s 0 ∧ bb s 0 ≤ 122 ∧ wokTo s s.size
instance (s : ByteArray) (k : Nat) : Decidable (wokTo s k):=Nat.decidableBallLT k (fun j _ => (48 ≤ bb s j ∧ bb s j ≤ 57) ∨ (97 ≤ bb s j ∧ bb s j ≤ 122))
instance (s : ByteArray) : Decidable (Word s):=inferInstanceAs (Decidable (_ ∧ _))
def wordB (s : ByteArray) : Bool:=decide (Word s)
theorem wordB_true {s : ByteArray} (h : Word s) : wordB s = true:=decide_eq_true h
theorem wordB_size {s : ByteArray} (h : s.size < 1 ∨ 8 < s.size) : wordB s = false:=decide_eq_false fun hw => by have:=hw.1; have:=hw.2.1; omega
theorem wordB_first {s : ByteArray} (h : bb s 0 < 97 ∨ 122 < bb s 0) : wordB s = false:=decide_eq_false fun hw => by have:=hw.2.2.1; have:=hw.2.2.2.1; omega
theorem wordB_bad {s : ByteArray} {k : Nat} (hk : k < s.size) (h : ¬ wok (bb s k)) : wordB s = false:=decide_eq_false fun hw => h (hw.2.2.2.2 k hk)
theorem Word.of {s : ByteArray} (h : wordB s = true) : Word s:=of_decide_eq_true h
theorem wokTo_succ {s : ByteArray} {k : Nat} (h : wokTo s k) (h1 : wok (bb s k)) : wokTo s (k + 1):=by
 intro j hj;rcases Nat.lt_succ_iff_lt_or_eq.1 hj with h' | rfl
 ·exact h j h'
 ·exact h1
set_option maxHeartbeats 400000 in
theorem implWordValid_any (s : ByteArray) (w : World) (hs : s.size ≤ maxLen) : Calls Tryz.prog 68 #[.string s] w fun e w' => e = .returned (.bool (wordB s)) ∧ w = w':=by
 unfold maxLen at hs;have hbb:=bb_eq s;by_cases h1 : s.size < 1
 ·have HR:=Lib.hid (wordB_size (.inl h1))
  have hd1 : decide ((s.size : Int) < 1) = true:=by simp; omega
  go_enter Tryz.func68,Tryz.ntmps68
  go_wp2_with fail
  go_ret;exact ⟨ret_bool HR.out.symm,rfl⟩
 ·have hd1 : decide ((s.size : Int) < 1) = false:=by simp; omega
  by_cases h8 : 8 < s.size
  ·have HR:=Lib.hid (wordB_size (.inr h8))
   have hd8 : decide (8 < (s.size : Int)) = true:=by simp; omega
   go_enter Tryz.func68,Tryz.ntmps68
   go_wp2_with fail
   go_ret;exact ⟨ret_bool HR.out.symm,rfl⟩
  ·have hd8 : decide (8 < (s.size : Int)) = false:=by simp; omega
   by_cases hlo : bb s 0 < 97
   ·have HR:=Lib.hid (wordB_first (.inl hlo))
    have hdl : decide (bb s 0 < 97) = true:=by simp [hlo]
    go_enter Tryz.func68,Tryz.ntmps68
    go_wp2_with fail
    go_ret;exact ⟨ret_bool HR.out.symm,rfl⟩
   ·have hdl : decide (bb s 0 < 97) = false:=by simp; omega
    by_cases hhi : 122 < bb s 0
    ·have HR:=Lib.hid (wordB_first (.inr hhi))
     have hdh : decide (122 < bb s 0) = true:=by simp [hhi]
     go_enter Tryz.func68,Tryz.ntmps68
     go_wp2_with fail
     go_ret;exact ⟨ret_bool HR.out.symm,rfl⟩
    ·have hdh : decide (122 < bb s 0) = false:=by simp; omega
     go_enter Tryz.func68,Tryz.ntmps68
     go_wp2_with fail
     go_loop [3] (fun i => ∃ k : Nat,1 ≤ k ∧ k ≤ s.size ∧ Hid (wokTo s k) ∧ i = .int .i64 k) (fun i => s.size - (intOf i).toNat)
     case atStart => exact ⟨1,Nat.le_refl _,by omega,Lib.hid (wokTo_succ (fun j hj => by omega) (.inr ⟨by omega,by omega⟩)),rfl⟩
     case round =>
      obtain ⟨k,hk1,hk,hok,rfl⟩:=hrel;by_cases hlt : k < s.size
      ·have hr:=bb_rng s k
       have hlo2:=dg_lo (bb s k);by_cases hdg : 0 ≤ dg (bb s k)
       ·have hdd : decide (dg (bb s k) < 0) = false:=by simp; omega
        go_wp2_with (go_at_call 116; refine (digitValue_any _ (by omega) (by omega) _).mono ?_; rintro e w' ⟨rfl,rfl⟩)
        go_round
        case rel => exact ⟨k + 1,by omega,by omega,Lib.hid (wokTo_succ hok.out (dg_wok.1 hdg)),by go_num⟩
        case measure => simp [intOf]; omega
       ·have hdd : decide (dg (bb s k) < 0) = true:=by simp; omega
        go_wp2_with (go_at_call 116; refine (digitValue_any _ (by omega) (by omega) _).mono ?_; rintro e w' ⟨rfl,rfl⟩)
        go_ret;exact ⟨ret_bool (wordB_bad hlt (fun h => by have:=dg_wok.2 h; omega)).symm,rfl⟩
      ·obtain rfl : k = s.size:=by omega
       go_wp2_with fail
       go_ret;exact ⟨ret_bool (wordB_true ⟨by omega,by omega,by omega,by omega,hok.out⟩).symm,rfl⟩
theorem alive_any (w : World) : Calls Tryz.prog 17 #[] w fun e w' => e = .returned (.bool true) ∧ w = w':=by
 have h1 : wordB { data:=#[97,49] } = true:=by decide
 have h2 : wordB { data:=#[49,97] } = false:=by decide
 go_enter Tryz.func17,Tryz.ntmps17
 go_wp2_with (go_at_call 68; refine (implWordValid_any _ _ (by decide)).mono ?_; rintro e w' ⟨rfl,rfl⟩)
 go_ret;exact ⟨rfl,rfl⟩

def Own (w : World) (base e sz : Nat) (A : Option Addr) (n cap : Nat) (f : Nat → Value) : Prop :=
 w.ownsRow base e sz (.slice A n cap) n ((List.range (n * sz)).map f)
def blk (A : Option Addr) : Option Nat:=A.map (·.block)
theorem ownBlock_slice (A : Option Addr) (n cap : Nat) : (Value.slice A n cap).ownBlock = blk A:=by cases A <;> rfl
theorem range_map_get (f : Nat → Value) {t j : Nat} (hj : j < t) : ((List.range t).map f)[j]? = some (f j):=by simp [hj]
theorem range_map_congr {f g : Nat → Value} {t : Nat} (h : ∀ j,j < t → f j = g j) : (List.range t).map f = (List.range t).map g :=
 List.map_congr_left fun j hj => h j (List.mem_range.1 hj)

section
variable {w w' : World} {base base' e sz n cap : Nat} {A : Option Addr} {f g : Nat → Value}
theorem Own.nil (w : World) (base e sz : Nat) (f : Nat → Value) : Own w base e sz none 0 0 f:=by
 unfold Own; rw [Nat.zero_mul]; exact World.ownsRow_nil w base e sz
theorem Own.congr (h : Own w base e sz A n cap f) (hfg : ∀ j,j < n * sz → f j = g j) : Own w base e sz A n cap g:=by
 unfold Own at h ⊢; rw [← range_map_congr hfg]; exact h
theorem Own.shape (h : Own w base e sz A n cap f) : (A = none ∧ n = 0 ∧ cap = 0) ∨ ∃ b,A = some ⟨b,0,none⟩ ∧ base ≤ b ∧ b < w.heap.size ∧ n ≤ cap ∧ cap ≤ maxLen:=by
 have hlt:=World.ownsRow.lt h;rcases h.2 with ⟨hv,_⟩ | ⟨b,c,cur,hv,hb,hg,hn,hc,_⟩
 ·injection hv with h1 h2 h3; exact .inl ⟨h1,h2,h3⟩
 ·injection hv with h1 h2 h3
  subst h1; subst h3
  have:=hlt b rfl;exact .inr ⟨b,rfl,hb,this.2,hn,hc⟩
def Shp (A : Option Addr) (n cap : Nat) : Prop:=(A = none ∧ n = 0 ∧ cap = 0) ∨ ∃ b off,A = some ⟨b,off,none⟩ ∧ n ≤ cap ∧ cap ≤ maxLen
theorem Own.shp (h : Own w base e sz A n cap f) : Shp A n cap:=by
 rcases h.shape with h1 | ⟨b,h1,_,_,h2,h3⟩
 ·exact .inl h1
 ·exact .inr ⟨b,0,h1,h2,h3⟩
theorem Own.lt (h : Own w base e sz A n cap f) {b : Nat} (hb : blk A = some b) : base ≤ b ∧ b < w.heap.size:=by
 rcases h.shape with ⟨rfl,_⟩ | ⟨b',rfl,h1,h2,_⟩
 ·cases hb
 ·simp [blk] at hb; omega
theorem Own.cell (h : Own w base e sz A n cap f) {b : Nat} (hA : A = some ⟨b,0,none⟩) {j : Nat} (hj : j < n * sz) : w.cell? ⟨b,j,none⟩ = some (f j):=by
 subst hA;rw [World.ownsRow.cellAt h j hj,range_map_get f hj]
theorem Own.frozen (h : Own w base e sz A n cap f) {b : Nat} (hA : A = some ⟨b,0,none⟩) (j : Nat) : w.frozen? ⟨b,j,none⟩ = false:=by
 subst hA;exact World.ownsRow.frozenAt h j
theorem Own.rd (h : Own w base e sz A n cap f) : Rd w w.heap.size sz A n f:=fun hn => by
 rcases h.shape with ⟨_,h0,_⟩ | ⟨b,hA,_,hb,_⟩
 ·omega
 ·exact ⟨b,0,hA,hb,fun j hj => by rw [Nat.zero_add]; exact h.cell hA hj⟩
theorem Own.kept (h : Own w base e sz A n cap f) {row : Option Nat} (hg : w.grownBy w' row) (hne : blk A = none ∨ blk A ≠ row) : Own w' base e sz A n cap f :=
 World.ownsRow.kept h hg (by rw [ownBlock_slice]; exact hne)
theorem Own.more (h : Own w base e sz A n cap f) (hb : base' ≤ base) : Own w base' e sz A n cap f:=by
 refine ⟨h.1,?_⟩;rcases h.2 with h2 | ⟨g,c,cur,hv,hg,r⟩
 ·exact .inl h2
 ·exact .inr ⟨g,c,cur,hv,by omega,r⟩
theorem Own.below (h : Own w base e sz A n cap f) (hb : Below w.heap.size w w') : Own w' base e sz A n cap f :=
 h.kept (row:=none) ⟨hb.os,hb.tape,hb.output,hb.size,fun k hk _ => hb.block k hk⟩ (by cases A <;> simp [blk])
theorem Own.belowB (h : Own w base e sz A n cap f) {B : Nat} (hb : Below B w w') (hlt : ∀ b,blk A = some b → b < B) : Own w' base e sz A n cap f:=by
 refine ⟨h.1,?_⟩;rcases h.2 with h2 | ⟨g,c,cur,hv,hg,hh,r⟩
 ·exact .inl h2
 ·injection hv with h1
  subst h1;exact .inr ⟨g,c,cur,by rw [‹cap = c›],hg,by rw [hb.block g (hlt g rfl)]; exact hh,r⟩
theorem Own.drewN (h : Own w base e sz A n cap f) (k : Nat) : Own (w.drewN k) base e sz A n cap f:=h
theorem Own.new (w : World) (e sz n : Nat) (f : Nat → Value) (hn : n ≤ maxLen) : Own (w.alloc (.cells (rowC f (n * sz)) e)) w.heap.size e sz (some ⟨w.heap.size,0,none⟩) n n f:=by
 have:=World.ownsRow_lit (e:=e) (size:=sz) w (rowC f (n * sz)) n (Nat.le_refl _) hn (rowC_size _ _);unfold Own
 rwa [show (rowC f (n * sz)).toList = (List.range (n * sz)).map f by simp [rowC,Array.toList_range]] at this
theorem Own.lit (w : World) (e sz n : Nat) (cs : Array Value) (f : Nat → Value) (hn : n ≤ maxLen) (hcs : cs.toList = (List.range (n * sz)).map f) : Own (w.alloc (.cells cs e)) w.heap.size e sz (some ⟨w.heap.size,0,none⟩) n n f:=by
 have hs : cs.size = n * sz:=by rw [← Array.length_toList,hcs]; simp
 have:=World.ownsRow_lit (e:=e) (size:=sz) w cs n (Nat.le_refl _) hn hs;unfold Own
 rwa [hcs] at this
theorem Own.cap0 (w : World) (e sz c base : Nat) (cs : Array Value) (f : Nat → Value) (hb : base ≤ w.heap.size) (hc : c ≤ maxLen) (hs : cs.size = c * sz) : Own (w.alloc (.cells cs e)) base e sz (some ⟨w.heap.size,0,none⟩) 0 c f:=by
 have:=World.ownsRow_made (e:=e) (size:=sz) w cs c hb hc hs;unfold Own;simpa using this
theorem Own.set (h : Own w base e sz A n cap f) {b j : Nat} (hA : A = some ⟨b,0,none⟩) (u : Value) :
    Own (w.setCell ⟨b,j,none⟩ u) base e sz A n cap (fun i => if i = j then u else f i) ∧ w.grownBy (w.setCell ⟨b,j,none⟩ u) (blk A):=by
 subst hA;obtain ⟨h1,h2⟩:=World.ownsRow.stored h j u;refine ⟨?_,h2⟩;unfold Own;have e : ((List.range (n * sz)).map f).set j u = (List.range (n * sz)).map (fun i => if i = j then u else f i):=by
  apply List.ext_getElem
  ·simp
  ·intro i h1 h2
   rw [List.getElem_set];by_cases hij : j = i
   ·subst hij; simp
   ·simp [hij,Ne.symm hij]
 rwa [e] at h1
end
theorem grown_below {w w' : World} {A : Option Addr} {B : Nat} (hg : w.grownBy w' (blk A)) (h : ∀ b,blk A = some b → B ≤ b) (hB : B ≤ w.heap.size) : Below B w w' :=
 (Below.refl B w).grown hg hB h

section
variable {P : Program} {w : World}
theorem run_append_none (base : Nat) (t ty e : TypeId) (i : TypeInfo) (size : Nat) (ht : P.underlying t = some (.slice e)) (hi : P.info? e = some i)
    (v : Value) (n : Nat) (xs : List Value) (hown : w.ownsRow base e size v n xs) (c : Nat) : (Builtin.append_ #[t,t] ty #[v,.slice none 0 c]).run P w = .ok v w:=by
 rcases hown.2 with ⟨rfl,rfl⟩ | ⟨g,cap,cur,rfl,_,_,hnc,_⟩
 ·simp [Builtin.append_,run_underlying ht,sizeOf,typeInfo,hi,Builtin.lenOf,Builtin.firstCells]
 ·simp [Builtin.append_,run_underlying ht,sizeOf,typeInfo,hi,Builtin.lenOf,Builtin.firstCells,hnc,storeCells]
theorem run_append (base : Nat) (t ty e : TypeId) (z : Value) (sz bytes : Nat) (ht : P.underlying t = some (.slice e)) (hinfo : (P.info? e).map (fun i => (i.zero,i.size,i.bytes)) = some (some z,sz,bytes))
    (hzs : z.cells.size = sz) (hsz : 0 < sz) (A A' : Option Addr) (n cap m c B : Nat) (f g : Nat → Value) (hown : Own w base e sz A n cap f) (hr : Rd w B sz A' m g) (h1 : ∀ j,j < m * sz → (g j).oneCell' = true)
    (h63 : n + m ≤ maxLen) (hbytes : (n + m) * bytes ≤ 140737488355328) (hbase : base ≤ w.heap.size) :
    ∃ A1 cap1 w1,(Builtin.append_ #[t,t] ty #[.slice A n cap,.slice A' m c]).run P w = .ok (.slice A1 (n + m) cap1) w1 ∧ Own w1 base e sz A1 (n + m) cap1 (fun j => if j < n * sz then f j else g (j - n * sz)) ∧ w.grownBy w1 (blk A):=by
 obtain ⟨i,hi,hz,hs,hb⟩:=info_parts hinfo;have hcat : (List.range (n * sz)).map f ++ (List.range (m * sz)).map g = (List.range ((n + m) * sz)).map (fun j => if j < n * sz then f j else g (j - n * sz)):=by
  apply List.ext_getElem
  ·simp [Nat.add_mul]
  ·intro j h1 h2
   simp only [List.length_append,List.length_map,List.length_range] at h1;by_cases hj : j < n * sz
   ·rw [List.getElem_append_left (by simpa using hj)]; simp [hj]
   ·rw [List.getElem_append_right (by simp; omega)]; simp [hj]
 by_cases hm : m = 0
 ·subst hm
  cases A' with
  | none =>
   refine ⟨A,cap,w,run_append_none base t ty e i sz ht hi _ n _ hown c,?_,World.grownBy.refl w _⟩;exact Own.congr (n:=n) hown fun j hj => by rw [if_pos (show j < n * sz from hj)]
  | some ad =>
   obtain ⟨v',w',hrun,h2,h3,_⟩:=run_append_own (P:=P) w base t ty e i z sz bytes ht hi hz hs hb hzs hsz _ n _ hown ad 0 c [] (by simp) (by simp) (by simp) h63 hbytes hbase;have hshape : ∃ A1 cap1,v' = .slice A1 (n + 0) cap1:=by
    rcases h2.2 with ⟨rfl,h0⟩ | ⟨_,_,_,rfl,_⟩
    ·exact ⟨none,0,by rw [h0]⟩
    ·exact ⟨_,_,rfl⟩
   obtain ⟨A1,cap1,rfl⟩:=hshape;rw [ownBlock_slice] at h3;refine ⟨A1,cap1,w',hrun,?_,h3⟩;unfold Own;rw [← hcat];simpa using h2
 ·obtain ⟨b,off,rfl,hbB,hc⟩:=hr (by omega)
  obtain ⟨v',w',hrun,h2,h3,_⟩:=run_append_own (P:=P) w base t ty e i z sz bytes ht hi hz hs hb hzs hsz _ n _ hown ⟨b,off,none⟩ m c ((List.range (m * sz)).map g) (by simp)
   (fun j u hu => by
    have hj : j < m * sz:=by
     have:=(List.getElem?_eq_some_iff.1 hu).1;simpa using this
    rw [range_map_get g hj] at hu;have e : (⟨b,off,none⟩ : Addr).add j = ⟨b,off + j,none⟩:=by unfold Addr.add; split <;> simp_all
    rw [e,hc j hj,hu])
   (fun u hu => by
    simp only [List.mem_map,List.mem_range] at hu;obtain ⟨j,hj,rfl⟩:=hu
    exact h1 j hj) h63 hbytes hbase
  have hshape : ∃ A1 cap1,v' = .slice A1 (n + m) cap1:=by
   rcases h2.2 with ⟨rfl,h0⟩ | ⟨_,_,_,rfl,_⟩
   ·omega
   ·exact ⟨_,_,rfl⟩
  obtain ⟨A1,cap1,rfl⟩:=hshape;rw [ownBlock_slice] at h3;refine ⟨A1,cap1,w',hrun,?_,h3⟩;unfold Own;rw [← hcat];exact h2

theorem wpList_app {ops : Array Oper} {rest : List Oper} {o : Oper} {a : Act} {Q : Exit → Act → World → Prop} (hgd : o.guard = none) (s x : Operand) (t : TypeId)
    (ho : o.op = .call { callee:=.builtin .append,args:=#[s,x],argTypes:=#[t,t] })
    (base : Nat) (e : TypeId) (z : Value) (sz bytes : Nat) (ht : P.underlying t = some (.slice e)) (hinfo : (P.info? e).map (fun i => (i.zero,i.size,i.bytes)) = some (some z,sz,bytes))
    (hzs : z.cells.size = sz) (hsz : 0 < sz) (A A' : Option Addr) (n cap m c B : Nat) (f g : Nat → Value) (hs : a.eval s = .slice A n cap) (hx : a.eval x = .slice A' m c) (hown : Own w base e sz A n cap f) (hr : Rd w B sz A' m g) (h1 : ∀ j,j < m * sz → (g j).oneCell' = true)
    (h63 : n + m ≤ maxLen) (hbytes : (n + m) * bytes ≤ 140737488355328) (hbase : base ≤ w.heap.size)
    (h : ∀ A1 cap1 w1,Own w1 base e sz A1 (n + m) cap1 (fun j => if j < n * sz then f j else g (j - n * sz)) → w.grownBy w1 (blk A) → wpList P ops Q rest (a.put o.dst (.slice A1 (n + m) cap1)) w1) : wpList P ops Q (o :: rest) a w:=by
 refine wpList_plain hgd fun K hK => ?_
 obtain ⟨A1,cap1,w1,hrun,h2,h3⟩:=run_append (P:=P) (w:=w) base t o.type e z sz bytes ht hinfo hzs hsz A A' n cap m c B f g hown hr h1 h63 hbytes hbase;unfold Oper.wp execOp;simp only [ho,resolve,invoke,builtin,Sem.run_bind,Sem.run_pure,Result.andThen_ok,List.map_toArray,List.map_cons,List.map_nil,hs,hx,hrun];exact hK _ _ (h A1 cap1 w1 h2 h3)
end
theorem step_app {P : Program} {w : World} {ops : Array Oper} {o : Oper} {a : Act} {K : Act → World → Prop} {Q : Exit → Act → World → Prop} {E : Prop} (hgd : o.guard = none) (s x : Operand) (t : TypeId)
    (ho : o.op = .call { callee:=.builtin .append,args:=#[s,x],argTypes:=#[t,t] })
    (base : Nat) (e : TypeId) (z : Value) (sz bytes : Nat) (ht : P.underlying t = some (.slice e)) (hinfo : (P.info? e).map (fun i => (i.zero,i.size,i.bytes)) = some (some z,sz,bytes))
    (hzs : z.cells.size = sz) (hsz : 0 < sz) (A A' : Option Addr) (n cap m c B : Nat) (f g : Nat → Value) (hs : a.eval s = .slice A n cap) (hx : a.eval x = .slice A' m c) (hown : Own w base e sz A n cap f) (hr : Rd w B sz A' m g) (h1 : ∀ j,j < m * sz → (g j).oneCell' = true)
    (h63 : n + m ≤ maxLen) (hbytes : (n + m) * bytes ≤ 140737488355328) (hbase : base ≤ w.heap.size)
    (h : ∀ A1 cap1 w1,Own w1 base e sz A1 (n + m) cap1 (fun j => if j < n * sz then f j else g (j - n * sz)) → w.grownBy w1 (blk A) → K (a.put o.dst (.slice A1 (n + m) cap1)) w1) :
    if Region.wanted o (yielded ops a.tmps) = true then Oper.wp P o a w K Q else E:=by
 have hw : Region.wanted o (yielded ops a.tmps) = true:=by simp [Region.wanted,hgd]
 rw [if_pos hw];obtain ⟨A1,cap1,w1,hrun,h2,h3⟩:=run_append (P:=P) (w:=w) base t o.type e z sz bytes ht hinfo hzs hsz A A' n cap m c B f g hown hr h1 h63 hbytes hbase;unfold Oper.wp execOp;simp only [ho,resolve,invoke,builtin,Sem.run_bind,Sem.run_pure,Result.andThen_ok,List.map_toArray,List.map_cons,List.map_nil,hs,hx,hrun];exact h A1 cap1 w1 h2 h3
theorem rd_one (w : World) (v : Value) (t : TypeId) : Rd (w.alloc (.cells #[v] t)) (w.heap.size + 1) 1 (some ⟨w.heap.size,0,none⟩) 1 (fun _ => v):=fun _ =>
 ⟨w.heap.size,0,rfl,by omega,fun j hj => by
  obtain rfl : j = 0:=by omega
  rw [World.cell?_alloc_at _ _ _ _ rfl]; rfl⟩
section
variable {α : Type} [Inhabited α]
def gt (xs : List α) (k : Nat) : α:=xs[k]?.getD default
theorem gt_append (xs ys : List α) (k : Nat) : gt (xs ++ ys) k = if k < xs.length then gt xs k else gt ys (k - xs.length):=by
 unfold gt; rw [List.getElem?_append]; split <;> rfl
theorem gt_take {xs : List α} {k j : Nat} (h : j < k) : gt (xs.take k) j = gt xs j:=by unfold gt; rw [List.getElem?_take,if_pos h]
theorem gt_drop (xs : List α) (k j : Nat) : gt (xs.drop k) j = gt xs (k + j):=by unfold gt; rw [List.getElem?_drop]
theorem gt_mem {xs : List α} {k : Nat} (h : k < xs.length) : gt xs k ∈ xs:=by unfold gt; rw [List.getElem?_eq_getElem h]; exact List.getElem_mem h
theorem mem_gt {xs : List α} {x : α} (h : x ∈ xs) : ∃ k,k < xs.length ∧ gt xs k = x:=by
 obtain ⟨k,hk,rfl⟩:=List.getElem_of_mem h;exact ⟨k,hk,by unfold gt; rw [List.getElem?_eq_getElem hk]; rfl⟩
theorem gt_ext {xs ys : List α} (hl : xs.length = ys.length) (h : ∀ j,j < xs.length → gt xs j = gt ys j) : xs = ys:=by
 apply List.ext_getElem hl;intro j h1 h2;have:=h j h1;simpa [gt,h1,h2] using this
theorem gt_cons (x : α) (xs : List α) (k : Nat) : gt (x :: xs) (k + 1) = gt xs k:=rfl
theorem gt_head (x : α) (xs : List α) : gt (x :: xs) 0 = x:=rfl
theorem take_snoc {xs : List α} {k : Nat} (h : k < xs.length) : xs.take (k + 1) = xs.take k ++ [gt xs k]:=by
 unfold gt; rw [List.take_succ_eq_append_getElem h,List.getElem?_eq_getElem h]; rfl
theorem gt_set {xs : List α} {k : Nat} (h : k < xs.length) (y : α) (j : Nat) : gt (xs.set k y) j = if j = k then y else gt xs j:=by
 unfold gt;rw [List.getElem?_set];by_cases hj : k = j
 ·subst hj; simp [h]
 ·rw [if_neg hj,if_neg (Ne.symm hj)]
def cE (sz : Nat) (enc : α → Nat → Value) (xs : List α) (j : Nat) : Value:=enc (gt xs (j / sz)) (j % sz)
theorem cE_at {sz : Nat} (enc : α → Nat → Value) (xs : List α) {i : Nat} (k : Nat) (hi : i < sz) : cE sz enc xs (k * sz + i) = enc (gt xs k) i:=by
 unfold cE;rw [Nat.mul_comm,Nat.mul_add_div (by omega),Nat.div_eq_of_lt hi,Nat.add_zero,Nat.mul_add_mod,Nat.mod_eq_of_lt hi]
def RdE (sz : Nat) (enc : α → Nat → Value) (w : World) (B : Nat) (A : Option Addr) (xs : List α) : Prop:=Rd w B sz A xs.length (cE sz enc xs)
def OwnE (sz : Nat) (enc : α → Nat → Value) (e : TypeId) (w : World) (base : Nat) (A : Option Addr) (cap : Nat) (xs : List α) : Prop:=Own w base e sz A xs.length cap (cE sz enc xs)
variable {sz : Nat} {enc : α → Nat → Value} {e : TypeId} {w w' : World} {B base cap : Nat} {A : Option Addr} {xs ys : List α}
theorem RdE.at_ (h : RdE sz enc w B A xs) (hn : 0 < xs.length) : ∃ b off,A = some ⟨b,off,none⟩ ∧ b < B ∧ ∀ k i,k < xs.length → i < sz → w.cell? ⟨b,off + (k * sz + i),none⟩ = some (enc (gt xs k) i):=by
 obtain ⟨b,off,e,hb,hc⟩:=h hn;refine ⟨b,off,e,hb,fun k i hk hi => ?_⟩
 rw [hc _ (by have : k * sz + sz ≤ xs.length * sz:=by rw [← Nat.succ_mul]; exact Nat.mul_le_mul_right _ hk
              omega),cE_at enc xs k hi]
theorem RdE.below (h : RdE sz enc w B A xs) (hb : Below B w w') : RdE sz enc w' B A xs:=Rd.below h hb
theorem RdE.more {B' : Nat} (h : RdE sz enc w B A xs) (hB : B ≤ B') : RdE sz enc w B' A xs:=Rd.more h hB
theorem RdE.nil : RdE sz enc w B A ([] : List α):=fun h => absurd h (by simp)
theorem RdE.alloc (h : RdE sz enc w B A xs) (hB : B ≤ w.heap.size) (o : Obj) : RdE sz enc (w.alloc o) B A xs:=h.below ((Below.refl _ _).alloc hB o)
theorem RdE.drewN (h : RdE sz enc w B A xs) (n : Nat) : RdE sz enc (w.drewN n) B A xs:=h
theorem RdE.take (h : RdE sz enc w B A xs) (k : Nat) : RdE sz enc w B A (xs.take k):=fun hp => by
 have hk : (xs.take k).length = min k xs.length:=by simp
 obtain ⟨b,off,e,hb,hc⟩:=h (by omega);refine ⟨b,off,e,hb,fun j hj => ?_⟩;have hz : 0 < sz:=by
  rcases Nat.eq_zero_or_pos sz with h0 | h0
  ·subst h0; simp at hj
  ·exact h0
 have hj2 : j / sz < (xs.take k).length:=(Nat.div_lt_iff_lt_mul hz).2 hj;rw [hc j (Nat.lt_of_lt_of_le hj (Nat.mul_le_mul_right _ (by omega)))];unfold cE;rw [gt_take (by omega)]
theorem RdE.drop {b off k : Nat} (h : RdE sz enc w B (some ⟨b,off,none⟩) xs) : RdE sz enc w B (some ⟨b,off + k * sz,none⟩) (xs.drop k):=fun hp => by
 have hk : (xs.drop k).length = xs.length - k:=by simp
 obtain ⟨b',off',e,hb,hc⟩:=h (by omega);injection e with e; injection e with e1 e2 e3; subst e1; subst e2
 refine ⟨b,off + k * sz,rfl,hb,fun j hj => ?_⟩;have hz : 0 < sz:=by
  rcases Nat.eq_zero_or_pos sz with h0 | h0
  ·subst h0; simp at hj
  ·exact h0
 have hj2 : k * sz + j < xs.length * sz:=by
  rw [hk] at hj;have : (xs.length - k) * sz = xs.length * sz - k * sz:=Nat.sub_mul _ _ _;omega
 rw [Nat.add_assoc,hc _ hj2];unfold cE;rw [gt_drop,Nat.mul_comm k sz,Nat.mul_add_div hz,Nat.mul_add_mod]
theorem OwnE.rd (h : OwnE sz enc e w base A cap xs) : RdE sz enc w w.heap.size A xs:=Own.rd h
theorem OwnE.cat (hz : 0 < sz) (h : Own w base e sz A (xs.length + ys.length) cap (fun j => if j < xs.length * sz then cE sz enc xs j else cE sz enc ys (j - xs.length * sz))) : OwnE sz enc e w base A cap (xs ++ ys):=by
 unfold OwnE;rw [List.length_append];refine Own.congr h fun j _ => ?_
 unfold cE;rw [gt_append];by_cases hj : j < xs.length * sz
 ·rw [if_pos hj,if_pos ((Nat.div_lt_iff_lt_mul hz).2 hj)]
 ·have hge : xs.length ≤ j / sz:=(Nat.le_div_iff_mul_le hz).2 (by omega)
  rw [if_neg hj,if_neg (by omega)];obtain ⟨d,rfl⟩ : ∃ d,j = xs.length * sz + d:=⟨j - xs.length * sz,by omega⟩;rw [Nat.add_sub_cancel_left,Nat.mul_comm,Nat.mul_add_div hz,Nat.mul_add_mod,Nat.add_sub_cancel_left]
theorem OwnE.snoc (hz : 0 < sz) {y : α} (h : Own w base e sz A (xs.length + 1) cap (fun j => if j < xs.length * sz then cE sz enc xs j else enc y (j - xs.length * sz))) : OwnE sz enc e w base A cap (xs ++ [y]) :=
 OwnE.cat hz (ys:=[y]) (Own.congr h fun j hj => by
  by_cases h1 : j < xs.length * sz
  ·rw [if_pos h1,if_pos h1]
  ·have h2 : [y].length = 1:=rfl
   have h3 : j - xs.length * sz < sz:=by
    rw [Nat.add_mul,h2,Nat.one_mul] at hj; omega
   rw [if_neg h1,if_neg h1];unfold cE;rw [Nat.div_eq_of_lt h3,Nat.mod_eq_of_lt h3]
   rfl)
end
theorem rd_elem {α : Type} {sz : Nat} {enc : α → Nat → Value} (w : World) (t : TypeId) (cs : Array Value) (y : α) (hcs : ∀ j,j < sz → cs[j]? = some (enc y j)) : Rd (w.alloc (.cells cs t)) (w.heap.size + 1) sz (some ⟨w.heap.size,0,none⟩) 1 (enc y):=fun _ =>
 ⟨w.heap.size,0,rfl,by omega,fun j hj => by
  rw [World.cell?_alloc_at _ _ _ _ rfl,Nat.zero_add,hcs j (by omega)]⟩
section
variable {α : Type} [Inhabited α] {sz : Nat} {enc : α → Nat → Value} {e : TypeId} {w : World} {base cap : Nat} {A : Option Addr} {xs : List α}
theorem OwnE.first {m : Nat} (h : Own w base e sz A (0 + m) cap (fun j => if j < 0 * sz then cE sz enc ([] : List α) j else cE sz enc xs (j - 0 * sz))) (hm : xs.length = m) : OwnE sz enc e w base A cap xs:=by
 subst hm;unfold OwnE;rw [Nat.zero_add] at h;exact Own.congr h fun j _ => by simp
theorem OwnE.join {ys : List α} {n m : Nat} (hz : 0 < sz) (hn : xs.length = n) (hm : ys.length = m) (h : Own w base e sz A (n + m) cap (fun j => if j < n * sz then cE sz enc xs j else cE sz enc ys (j - n * sz))) : OwnE sz enc e w base A cap (xs ++ ys):=by
 subst hn; subst hm; exact OwnE.cat hz h
theorem OwnE.push {y : α} {n : Nat} (hz : 0 < sz) (hn : xs.length = n) (h : Own w base e sz A (n + 1) cap (fun j => if j < n * sz then cE sz enc xs j else enc y (j - n * sz))) : OwnE sz enc e w base A cap (xs ++ [y]):=by
 subst hn; exact OwnE.snoc hz h
theorem OwnE.own {n : Nat} (h : OwnE sz enc e w base A cap xs) (hn : xs.length = n) : Own w base e sz A n cap (cE sz enc xs):=by subst hn; exact h
theorem RdE.len {B n : Nat} (h : RdE sz enc w B A xs) (hn : xs.length = n) : Rd w B sz A n (cE sz enc xs):=by subst hn; exact h
theorem OwnE.of_set {k : Nat} (hk : k < xs.length) {y : α} {f : Nat → Value} (h : Own w base e sz A xs.length cap f) (hf : ∀ j,j < xs.length * sz → f j = if j / sz = k then enc y (j % sz) else cE sz enc xs j) : OwnE sz enc e w base A cap (xs.set k y):=by
 unfold OwnE;rw [List.length_set];refine Own.congr h fun j hj => ?_
 rw [hf j hj];unfold cE;rw [gt_set hk]
 split <;> rfl
end
def eqEl {α : Type} [DecidableEq α] (x y : α) : Bool:=decide (x = y)
theorem eqEl_true {α : Type} [DecidableEq α] {x y : α} (h : x = y) : eqEl x y = true:=decide_eq_true h
theorem eqEl_false {α : Type} [DecidableEq α] {x y : α} (h : x ≠ y) : eqEl x y = false:=decide_eq_false h
theorem below_drew1 {B : Nat} (w : World) : Below B w w.drew:=(Below.refl _ _).drew
def sameB {α : Type} [DecidableEq α] (xs ys : List α) : Bool:=decide (xs = ys)
theorem sameB_self {α : Type} [DecidableEq α] (xs : List α) : sameB xs xs = true:=decide_eq_true rfl
theorem sameB_true {α : Type} [Inhabited α] [DecidableEq α] {xs ys : List α} (hl : xs.length = ys.length) (h : ∀ j,j < xs.length → gt xs j = gt ys j) : sameB xs ys = true:=decide_eq_true (gt_ext hl h)
theorem sameB_len {α : Type} [DecidableEq α] {xs ys : List α} (hl : xs.length ≠ ys.length) : sameB xs ys = false:=decide_eq_false fun e => hl (by rw [e])
theorem sameB_at {α : Type} [Inhabited α] [DecidableEq α] {xs ys : List α} {j : Nat} (h : gt xs j ≠ gt ys j) : sameB xs ys = false:=decide_eq_false fun e => h (by rw [e])
def inB (n lo hi : Int) : Bool:=decide (lo ≤ n) && decide (n ≤ hi)
theorem inB_true {n lo hi : Int} (h1 : lo ≤ n) (h2 : n ≤ hi) : inB n lo hi = true:=by simp [inB,h1,h2]
theorem inB_false {n lo hi : Int} (h : n < lo ∨ hi < n) : inB n lo hi = false:=by simp [inB]; omega
theorem within_any (n lo hi : Int) (w : World) : Calls Tryz.prog 67 #[.int .i64 n,.int .i64 lo,.int .i64 hi] w fun e w' => e = .returned (.bool (inB n lo hi)) ∧ w = w':=by
 go_enter Tryz.func67,Tryz.ntmps67
 go_wp2
 all_goals (go_ret; exact ⟨ret_bool (by simp [inB, *] <;> omega),rfl⟩)
theorem l1In_any (n lo hi : Int) (w : World) : Calls Tryz.prog 81 #[.int .i64 n,.int .i64 lo,.int .i64 hi] w fun e w' => e = .returned (.bool (inB n lo hi)) ∧ w = w':=by
 go_enter Tryz.func81,Tryz.ntmps81
 go_wp2
 all_goals (go_ret; exact ⟨ret_bool (by simp [inB, *] <;> omega),rfl⟩)

theorem quiet_of {P : Program} {f : FuncId} {args : Array Value} {w : World} {n : Nat} {v : Value} (h : Calls P f args (w.drewN n) fun e w' => e = .returned v ∧ w.drewN n = w') : Calls P f args (w.drewN n) fun e w'' => e = .returned v ∧ ∃ m,w'' = w.drewN m:=h.mono fun _ _ ⟨he,hw⟩ => ⟨he,n,hw.symm⟩
end Go.Proofs.YtfnmlffpnmmcdaaGreatDoor
namespace Go.Proofs.YtfnmlffpnmmcdaaGreatDoor
set_option maxRecDepth 100000
section
variable {α : Type}
def upTo (Ok : List α → Nat → Prop) (xs : List α) (k : Nat) : Prop:=∀ j,j < k → Ok xs j
def Vd (Ok : List α → Nat → Prop) (mx : Nat) (xs : List α) : Prop:=xs.length ≤ mx ∧ upTo Ok xs xs.length
variable {Ok : List α → Nat → Prop} {mx : Nat} {xs : List α} {k : Nat}
theorem upTo_zero : upTo Ok xs 0:=fun _ h => absurd h (by omega)
theorem upTo_succ (h : upTo Ok xs k) (h1 : Ok xs k) : upTo Ok xs (k + 1):=by
 intro j hj;rcases Nat.lt_succ_iff_lt_or_eq.1 hj with h' | rfl
 ·exact h j h'
 ·exact h1
instance (xs : List α) (k : Nat) [h : ∀ xs k,Decidable (Ok xs k)] : Decidable (upTo Ok xs k):=Nat.decidableBallLT k (fun j _ => Ok xs j)
instance (xs : List α) [h : ∀ xs k,Decidable (Ok xs k)] : Decidable (Vd Ok mx xs):=inferInstanceAs (Decidable (_ ∧ _))
def vdB (Ok : List α → Nat → Prop) [∀ xs k,Decidable (Ok xs k)] (mx : Nat) (xs : List α) : Bool:=decide (Vd Ok mx xs)
variable [∀ xs k,Decidable (Ok xs k)]
theorem vdB_true (h : Vd Ok mx xs) : vdB Ok mx xs = true:=decide_eq_true h
theorem Vd.of (h : vdB Ok mx xs = true) : Vd Ok mx xs:=of_decide_eq_true h
theorem vdB_long (h : mx < xs.length) : vdB Ok mx xs = false:=decide_eq_false fun hv => by have:=hv.1; omega
theorem vdB_bad (hk : k < xs.length) (h : ¬ Ok xs k) : vdB Ok mx xs = false:=decide_eq_false fun hv => h (hv.2 k hk)
theorem vdB_all (h : upTo Ok xs xs.length) : decide ((xs.length : Int) ≤ (mx : Int)) = vdB Ok mx xs:=by
 unfold vdB;by_cases hl : xs.length ≤ mx
 ·rw [decide_eq_true (by omega : (xs.length : Int) ≤ (mx : Int)),decide_eq_true (show Vd Ok mx xs from ⟨hl,h⟩)]
 ·rw [decide_eq_false (by omega : ¬ (xs.length : Int) ≤ (mx : Int)),decide_eq_false (fun hv : Vd Ok mx xs => hl hv.1)]
def fi (p : α → Bool) : List α → Nat
 | [] => 0
 | x :: xs => if p x = true then 0 else fi p xs + 1
variable {p : α → Bool}
theorem fi_le : fi p xs ≤ xs.length:=by
 induction xs with
 | nil => simp [fi]
 | cons x xs ih => rw [fi]; split <;> simp; omega
def ix (p : α → Bool) (xs : List α) : Int:=if fi p xs < xs.length then (fi p xs : Int) else -1
theorem ix_lo : -1 ≤ ix p xs:=by unfold ix; split <;> omega
theorem ix_hi : ix p xs < xs.length:=by unfold ix; split <;> omega
variable [Inhabited α]
theorem fi_eq (hk : k ≤ xs.length) (h1 : ∀ j,j < k → p (gt xs j) = false) (h2 : k < xs.length → p (gt xs k) = true) : fi p xs = k:=by
 induction xs generalizing k with
 | nil => simp at hk; subst hk; rfl
 | cons x xs ih =>
  cases k with
  | zero =>
   have:=h2 (by simp);rw [gt_head] at this;rw [fi,if_pos this]
  | succ k =>
   have h0:=h1 0 (by omega);rw [gt_head] at h0;rw [fi,if_neg (by rw [h0]; simp),ih (by simpa using hk) (fun j hj => by have:=h1 (j + 1) (by omega); rwa [gt_cons] at this) (fun hlt => by have:=h2 (by simpa using hlt); rwa [gt_cons] at this)]
theorem fi_before {j : Nat} (hj : j < fi p xs) : p (gt xs j) = false:=by
 induction xs generalizing j with
 | nil => simp [fi] at hj
 | cons x xs ih =>
  rw [fi] at hj;by_cases h0 : p x = true
  ·rw [if_pos h0] at hj; omega
  ·rw [if_neg h0] at hj
   cases j with
   | zero => rw [gt_head]; simpa using h0
   | succ j => rw [gt_cons]; exact ih (by omega)
theorem fi_at (h : fi p xs < xs.length) : p (gt xs (fi p xs)) = true:=by
 induction xs with
 | nil => simp at h
 | cons x xs ih =>
  rw [fi] at h ⊢;by_cases h0 : p x = true
  ·rw [if_pos h0,gt_head]; exact h0
  ·rw [if_neg h0] at h ⊢
   rw [gt_cons]; exact ih (by simpa using h)
theorem ix_at (hk : k < xs.length) (h1 : ∀ j,j < k → p (gt xs j) = false) (h2 : p (gt xs k) = true) : ix p xs = k:=by
 unfold ix; rw [fi_eq (by omega) h1 (fun _ => h2),if_pos hk]
theorem ix_none (h1 : ∀ j,j < xs.length → p (gt xs j) = false) : ix p xs = -1:=by
 unfold ix; rw [fi_eq (Nat.le_refl _) h1 (fun h => by omega),if_neg (Nat.lt_irrefl _)]
theorem ix_cases : (ix p xs = -1 ∧ ∀ j,j < xs.length → p (gt xs j) = false) ∨ ∃ k,k < xs.length ∧ ix p xs = k ∧ p (gt xs k) = true ∧ ∀ j,j < k → p (gt xs j) = false:=by
 by_cases h : fi p xs < xs.length
 ·exact .inr ⟨fi p xs,h,by rw [ix,if_pos h],fi_at h,fun j hj => fi_before hj⟩
 ·have:=fi_le (p:=p) (xs:=xs)
  refine .inl ⟨by rw [ix,if_neg h],fun j hj => fi_before (by omega)⟩
theorem ix_take_none (hk : k ≤ xs.length) (h : ∀ j,j < k → p (gt xs j) = false) : ix p (xs.take k) = -1:=ix_none fun j hj => by
 have hj' : j < k:=by simp at hj; omega
 rw [gt_take hj']; exact h j hj'
theorem ix_take_some (hk : k ≤ xs.length) {j : Nat} (hj : j < k) (h : p (gt xs j) = true) : 0 ≤ ix p (xs.take k):=by
 rcases ix_cases (p:=p) (xs:=xs.take k) with ⟨_,h2⟩ | ⟨i,_,hi,_⟩
 ·have:=h2 j (by simp; omega)
  rw [gt_take hj,h] at this; cases this
 ·omega
end
theorem ba_list {a b : ByteArray} : a.toList = b.toList ↔ a = b:=by
 constructor
 ·intro h
  rw [ByteArray.toList_eq,ByteArray.toList_eq] at h;cases a; cases b
  simp only at h;rw [Array.toList_inj.1 h]
 ·rintro rfl; rfl
def seq (a b : ByteArray) : Bool:=decide (a = b)
theorem seq_true {a b : ByteArray} : seq a b = true ↔ a = b:=by simp [seq]
theorem seq_false {a b : ByteArray} : seq a b = false ↔ a ≠ b:=by simp [seq]
theorem seq_self (a : ByteArray) : seq a a = true:=seq_true.2 rfl
theorem seq_eql (a b : ByteArray) : (a.toList == b.toList) = seq a b:=by
 rw [Bool.eq_iff_iff,seq_true,beq_iff_eq,ba_list]
theorem seq_neq (a b : ByteArray) : (a.toList != b.toList) = !seq a b:=by rw [← seq_eql]; rfl
theorem ret_st {a b : ByteArray} (h : a = b) : Ending.returned (.string a) = .returned (.string b):=by rw [h]
def tokTo (s : ByteArray) (k : Nat) : Prop:=∀ j,j < k → 32 ≤ bb s j ∧ bb s j ≤ 126
instance (s : ByteArray) (k : Nat) : Decidable (tokTo s k):=Nat.decidableBallLT k (fun j _ => 32 ≤ bb s j ∧ bb s j ≤ 126)
def Text (s : ByteArray) : Prop:=s.size ≤ 80 ∧ tokTo s s.size
instance (s : ByteArray) : Decidable (Text s):=inferInstanceAs (Decidable (_ ∧ _))
def textB (s : ByteArray) : Bool:=decide (Text s)
theorem textB_true {s : ByteArray} (h : Text s) : textB s = true:=decide_eq_true h
theorem Text.of {s : ByteArray} (h : textB s = true) : Text s:=of_decide_eq_true h
theorem textB_long {s : ByteArray} (h : 80 < s.size) : textB s = false:=decide_eq_false fun ht => by have:=ht.1; omega
theorem textB_bad {s : ByteArray} {k : Nat} (hk : k < s.size) (h : ¬ (32 ≤ bb s k ∧ bb s k ≤ 126)) : textB s = false:=decide_eq_false fun ht => h (ht.2 k hk)
theorem tokTo_zero {s : ByteArray} : tokTo s 0:=fun _ h => absurd h (by omega)
theorem tokTo_succ {s : ByteArray} {k : Nat} (h : tokTo s k) (h1 : 32 ≤ bb s k ∧ bb s k ≤ 126) : tokTo s (k + 1):=by
 intro j hj;rcases Nat.lt_succ_iff_lt_or_eq.1 hj with h' | rfl
 ·exact h j h'
 ·exact h1
theorem textB_all {s : ByteArray} (h : tokTo s s.size) : decide ((s.size : Int) ≤ 80) = textB s :=
 decide_eq_decide.2 ⟨fun hh => ⟨by omega,h⟩,fun hh => by have:=hh.1; omega⟩
theorem ba_ext {a b : ByteArray} (h : a.toList = b.toList) : a = b:=ba_list.1 h
theorem ba_size (s : ByteArray) : s.toList.length = s.size:=by
 rw [ByteArray.toList_eq]; simp
theorem ba_bb {a b : ByteArray} (h : a.size = b.size) (hb : ∀ k,k < a.size → bb a k = bb b k) : a = b:=by
 apply ByteArray.ext_getElem h;intro k h1 h2;have:=hb k h1;rw [← bb_eq a k h1,← bb_eq b k h2] at this;exact UInt8.toNat_inj.1 (by omega)
theorem bb_get {s : ByteArray} {k : Nat} (h : k < s.size) : bb s k = ((s.data.toList[k]?.getD 0).toNat : Int):=by
 rw [← bb_eq s k h];have : k < s.data.toList.length:=by simpa using h
 rw [List.getElem?_eq_getElem this]; rfl
theorem bb_out {s : ByteArray} {k : Nat} (h : s.size ≤ k) : bb s k = 0:=by unfold bb; rw [dif_neg (by omega)]
theorem bb_extract {s : ByteArray} {a b k : Nat} (hb : b ≤ s.size) (hk : a + k < b) : bb (s.extract a b) k = bb s (a + k):=by
 have h1 : k < (s.extract a b).size:=by rw [ByteArray.size_extract]; omega
 rw [← bb_eq _ k h1,← bb_eq s (a + k) (by omega)];rw [ByteArray.getElem_extract]
theorem bb_left {a b : ByteArray} {k : Nat} (h : k < a.size) : bb (a ++ b) k = bb a k:=by
 have h1 : k < (a ++ b).size:=by rw [ByteArray.size_append]; omega
 rw [← bb_eq _ k h1,← bb_eq a k h,ByteArray.getElem_append_left h]
theorem bb_right (a b : ByteArray) (k : Nat) : bb (a ++ b) (a.size + k) = bb b k:=by
 by_cases h : k < b.size
 ·have h1 : a.size + k < (a ++ b).size:=by rw [ByteArray.size_append]; omega
  rw [← bb_eq _ _ h1,← bb_eq b k h,ByteArray.getElem_append_right (by omega)]
  congr 3
  omega
 ·rw [bb_out (by rw [ByteArray.size_append]; omega),bb_out (by omega)]
theorem size_ext {s : ByteArray} {a b : Nat} (hb : b ≤ s.size) : (s.extract a b).size = b - a:=by rw [ByteArray.size_extract]; omega
theorem extract_all (s : ByteArray) : s.extract 0 s.size = s:=by
 apply ba_ext;rw [ByteArray.toList_eq,ByteArray.toList_eq,ByteArray.data_extract]
 congr 1
 exact Array.extract_size
def fbG (s : ByteArray) (c : Int) : Nat → Nat → Nat
 | 0,a => a
 | n + 1,a => if bb s a = c then a else fbG s c n (a + 1)
def fb (s : ByteArray) (c : Int) (a : Nat) : Nat:=fbG s c (s.size - a) a
theorem fbG_spec (s : ByteArray) (c : Int) : ∀ n a,a + n = s.size → a ≤ fbG s c n a ∧ fbG s c n a ≤ s.size ∧ (∀ j,a ≤ j → j < fbG s c n a → bb s j ≠ c) ∧ (fbG s c n a < s.size → bb s (fbG s c n a) = c):=by
 intro n
 induction n with
 | zero => intro a h; exact ⟨Nat.le_refl _,by show a ≤ _; omega,fun j h1 h2 => by have h2 : j < a:=h2; omega,fun h2 => by have h2 : a < s.size:=h2; omega⟩
 | succ n ih =>
  intro a h;rw [fbG];by_cases e : bb s a = c
  ·rw [if_pos e]; exact ⟨Nat.le_refl _,by omega,fun j h1 h2 => by omega,fun _ => e⟩
  ·rw [if_neg e]
   obtain ⟨h1,h2,h3,h4⟩:=ih (a + 1) (by omega);refine ⟨by omega,h2,fun j hj1 hj2 => ?_,h4⟩;rcases Nat.eq_or_lt_of_le hj1 with rfl | hlt
   ·exact e
   ·exact h3 j hlt hj2
theorem fb_ge {s : ByteArray} {c : Int} {a : Nat} (h : a ≤ s.size) : a ≤ fb s c a:=(fbG_spec s c _ a (by omega)).1
theorem fb_le {s : ByteArray} {c : Int} {a : Nat} (h : a ≤ s.size) : fb s c a ≤ s.size:=(fbG_spec s c _ a (by omega)).2.1
theorem fb_ne {s : ByteArray} {c : Int} {a : Nat} (h : a ≤ s.size) {j : Nat} (h1 : a ≤ j) (h2 : j < fb s c a) : bb s j ≠ c:=(fbG_spec s c _ a (by omega)).2.2.1 j h1 h2
theorem fb_at {s : ByteArray} {c : Int} {a : Nat} (h : a ≤ s.size) (h1 : fb s c a < s.size) : bb s (fb s c a) = c:=(fbG_spec s c _ a (by omega)).2.2.2 h1
theorem fb_out {s : ByteArray} {c : Int} {a : Nat} (h : s.size ≤ a) : fb s c a = a:=by unfold fb; rw [show s.size - a = 0 by omega]; rfl
theorem fb_eq {s : ByteArray} {c : Int} {a k : Nat} (ha : a ≤ k) (hk : k ≤ s.size) (h1 : ∀ j,a ≤ j → j < k → bb s j ≠ c) (h2 : k < s.size → bb s k = c) : fb s c a = k:=by
 obtain ⟨g1,g2,g3,g4⟩:=fbG_spec s c (s.size - a) a (by omega);have e : fbG s c (s.size - a) a = fb s c a:=rfl;rw [e] at g1 g2 g3 g4;rcases Nat.lt_trichotomy (fb s c a) k with h | h | h
 ·exact absurd (g4 (by omega)) (h1 _ g1 h)
 ·exact h
 ·exact absurd (h2 (by omega)) (g3 k ha h)
theorem fb_here {s : ByteArray} {c : Int} {a : Nat} (h : a < s.size) (hb : bb s a = c) : fb s c a = a:=fb_eq (Nat.le_refl _) (by omega) (fun j h1 h2 => by omega) (fun _ => hb)
theorem fb_step {s : ByteArray} {c : Int} {a : Nat} (h : a < s.size) (hb : bb s a ≠ c) : fb s c a = fb s c (a + 1):=by
 refine fb_eq (Nat.le_trans (Nat.le_succ a) (fb_ge (by omega))) (fb_le (by omega)) (fun j h1 h2 => ?_) (fun h2 => fb_at (by omega) h2);rcases Nat.eq_or_lt_of_le h1 with rfl | hlt
 ·exact hb
 ·exact fb_ne (by omega) hlt h2
theorem toList_get {s : ByteArray} {k : Nat} {x : UInt8} : s.data.toList[k]? = some x ↔ k < s.size ∧ bb s k = (x.toNat : Int):=by
 have hlen : s.data.toList.length = s.size:=by simp
 constructor
 ·intro h
  have hk : k < s.size:=by have:=(List.getElem?_eq_some_iff.1 h).1; omega
  exact ⟨hk,by rw [bb_get hk,h]; rfl⟩
 ·rintro ⟨hk,hb⟩
  rw [bb_get hk] at hb;have h1 : s.data.toList[k]? = some (s.data.toList[k]'(by omega)):=List.getElem?_eq_getElem _;rw [h1] at hb ⊢;have : (s.data.toList[k]'(by omega)).toNat = x.toNat:=by apply Int.ofNat_inj.1; simpa using hb
  rw [UInt8.toNat_inj.1 this]
theorem indexByte_fb (s : ByteArray) (c : UInt8) : Lib.indexByte s.data.toList c = if fb s (c.toNat : Int) 0 < s.size then ((fb s (c.toNat : Int) 0 : Nat) : Int) else -1:=by
 have hge:=Lib.indexByte_ge s.data.toList c;by_cases hn : Lib.indexByte s.data.toList c = -1
 ·have h1:=Lib.indexByte_none hn
  rw [if_neg,hn];intro hlt;exact h1 _ (toList_get.2 ⟨hlt,fb_at (Nat.zero_le _) hlt⟩)
 ·obtain ⟨o,ho⟩:=Int.eq_ofNat_of_zero_le (show 0 ≤ Lib.indexByte s.data.toList c by omega)
  obtain ⟨h1,h2⟩:=Lib.indexByte_some ho;obtain ⟨hlt,hb⟩:=toList_get.1 h1;have e : fb s (c.toNat : Int) 0 = o:=fb_eq (Nat.zero_le _) (by omega) (fun j _ hj hb2 => h2 j hj (toList_get.2 ⟨by omega,hb2⟩)) (fun _ => hb);rw [e,if_pos hlt,ho]
theorem ext_ext {s : ByteArray} {a b c d : Nat} (hb : b ≤ s.size) (hd : d ≤ b - a) : (s.extract a b).extract c d = s.extract (a + c) (a + d):=by
 apply ba_bb
 ·rw [size_ext (by rw [size_ext hb]; exact hd),ByteArray.size_extract]; omega
 ·intro k hk
  rw [size_ext (by rw [size_ext hb]; exact hd)] at hk;rw [bb_extract (by rw [size_ext hb]; exact hd) (by omega),bb_extract hb (by omega),bb_extract (by omega) (by omega)]
  congr 1
  omega
theorem bb_ge (s : ByteArray) (k : Nat) : 0 ≤ bb s k ∧ bb s k ≤ 255:=by
 by_cases h : k < s.size
 ·rw [bb_get h]; have:=(s.data.toList[k]?.getD 0).toNat_lt; omega
 ·rw [bb_out (by omega)]; omega
theorem bb_tail {s : ByteArray} {a k : Nat} (ha : a ≤ s.size) : bb (s.extract a s.size) k = bb s (a + k):=by
 by_cases h : a + k < s.size
 ·exact bb_extract (Nat.le_refl _) h
 ·rw [bb_out (by rw [size_ext (Nat.le_refl _)]; omega),bb_out (by omega)]
theorem fb_tail {s : ByteArray} {c : Int} {a : Nat} (h : a ≤ s.size) : fb (s.extract a s.size) c 0 + a = fb s c a:=by
 have hz : (s.extract a s.size).size = s.size - a:=size_ext (Nat.le_refl _);have h1:=fb_le (s:=s.extract a s.size) (c:=c) (a:=0) (Nat.zero_le _);refine (fb_eq (by omega) (by omega) (fun j hj1 hj2 => ?_) (fun hlt => ?_)).symm
 ·have:=fb_ne (s:=s.extract a s.size) (c:=c) (a:=0) (Nat.zero_le _) (j:=j - a) (Nat.zero_le _) (by omega)
  rwa [bb_tail h,show a + (j - a) = j by omega] at this
 ·have:=fb_at (s:=s.extract a s.size) (c:=c) (a:=0) (Nat.zero_le _) (by omega)
  rwa [bb_tail h,Nat.add_comm] at this
theorem hasPrefix_iff (s p : ByteArray) : Lib.hasPrefix s.data.toList p.data.toList = decide (p.size ≤ s.size ∧ s.extract 0 p.size = p):=by
 rw [Bool.eq_iff_iff,decide_eq_true_eq];unfold Lib.hasPrefix;rw [List.isPrefixOf_iff_prefix];have hs : s.data.toList.length = s.size:=by simp
 have hp : p.data.toList.length = p.size:=by simp
 constructor
 ·intro h
  have hl:=h.length_le;refine ⟨by omega,?_⟩;apply ba_bb
  ·rw [size_ext (by omega)]; omega
  ·intro k hk
   rw [size_ext (by omega)] at hk;rw [bb_extract (by omega) (by omega),Nat.zero_add];have e : p.data.toList[k]? = s.data.toList[k]?:=by
    obtain ⟨t,ht⟩:=h;rw [← ht,List.getElem?_append_left (by omega)]
   rw [bb_get (by omega),bb_get (by omega),e]
 ·rintro ⟨hl,he⟩
  rw [List.prefix_iff_eq_take];apply List.ext_getElem?;intro k;rw [List.getElem?_take];by_cases hk : k < p.size
  ·rw [if_pos (by omega)]
   have h1 : p.data.toList[k]? = some (p.data.toList[k]'(by omega)):=List.getElem?_eq_getElem _;rw [h1]
   symm
   rw [toList_get];refine ⟨by omega,?_⟩;have h2 : bb (s.extract 0 p.size) k = bb p k:=by rw [he]
   rw [bb_extract hl (by omega),Nat.zero_add] at h2;rw [h2];exact (toList_get.1 h1).2
  ·rw [if_neg (by omega),List.getElem?_eq_none (by omega)]
theorem ext_cat {s : ByteArray} {a b c : Nat} (h1 : a ≤ b) (h2 : b ≤ c) (h3 : c ≤ s.size) : s.extract a b ++ s.extract b c = s.extract a c:=by
 apply ba_bb
 ·rw [ByteArray.size_append,size_ext (by omega),size_ext h3,size_ext h3]; omega
 ·intro k hk
  rw [ByteArray.size_append,size_ext (by omega),size_ext h3] at hk;by_cases hkb : a + k < b
  ·rw [bb_left (by rw [size_ext (by omega)]; omega),bb_extract (by omega) hkb,bb_extract h3 (by omega)]
  ·have hz : (s.extract a b).size = b - a:=size_ext (by omega)
   obtain ⟨d,rfl⟩ : ∃ d,k = (b - a) + d:=⟨k - (b - a),by omega⟩;have:=bb_right (s.extract a b) (s.extract b c) d;rw [hz] at this;rw [this,bb_extract h3 (by omega),bb_extract h3 (by omega)]
   congr 1; omega
theorem ext_byte {s : ByteArray} {a : Nat} (h : a < s.size) {c : UInt8} (hb : bb s a = (c.toNat : Int)) : s.extract a (a + 1) = { data:=#[c] }:=by
 have h1 : ({ data:=#[c] } : ByteArray).size = 1:=rfl;apply ba_bb
 ·rw [size_ext (by omega),h1]; omega
 ·intro k hk
  rw [size_ext (by omega)] at hk;obtain rfl : k = 0:=by omega
  rw [bb_extract (by omega) (by omega),Nat.add_zero,hb]; rfl
def dig36 (d : Nat) : ByteArray:=({ data:=#[48,49,50,51,52,53,54,55,56,57,97,98,99,100,101,102,103,104,105,106,107,108,109,110,111,112,113,114,115,116,117,118,119,120,121,122] } : ByteArray).extract d (d + 1)
theorem dig36_size {d : Nat} (h : d < 36) : (dig36 d).size = 1:=by
 have hz : ({ data:=#[48,49,50,51,52,53,54,55,56,57,97,98,99,100,101,102,103,104,105,106,107,108,109,110,111,112,113,114,115,116,117,118,119,120,121,122] } : ByteArray).size = 36:=rfl;unfold dig36; rw [size_ext (by omega)]; omega
def mkP (n : Nat) : ByteArray:=if _h : n < 36 then { data:=#[] } else mkP (n / 36) ++ dig36 (n / 36 % 36)
termination_by n
decreasing_by omega
def mkT (n : Nat) : ByteArray:=mkP n ++ dig36 (n % 36)
theorem mkP_lt {n : Nat} (h : n < 36) : mkP n = { data:=#[] }:=by rw [mkP,dif_pos h]
theorem mkP_ge {n : Nat} (h : ¬ n < 36) : mkP n = mkT (n / 36):=by rw [mkP,dif_neg h]; rfl
theorem empty_app (a : ByteArray) : ({ data:=#[] } : ByteArray) ++ a = a:=by
 apply ba_ext; rw [ByteArray.toList_eq,ByteArray.toList_eq,ByteArray.data_append]; simp
theorem app_empty (a : ByteArray) : a ++ ({ data:=#[] } : ByteArray) = a:=by
 apply ba_ext; rw [ByteArray.toList_eq,ByteArray.toList_eq,ByteArray.data_append]; simp
theorem app_assoc (a b c : ByteArray) : a ++ b ++ c = a ++ (b ++ c):=by
 apply ba_ext; rw [ByteArray.toList_eq,ByteArray.toList_eq]; simp [ByteArray.data_append]
theorem mkT_lt {n : Nat} (h : n < 36) : mkT n = dig36 n:=by unfold mkT; rw [mkP_lt h,empty_app,Nat.mod_eq_of_lt h]
theorem mkP_step {n : Nat} (h : ¬ n < 36) (t : ByteArray) : mkP n ++ t = mkP (n / 36) ++ (dig36 (n / 36 % 36) ++ t):=by rw [mkP_ge h]; unfold mkT; rw [app_assoc]
theorem mkT_size : ∀ (c n : Nat),n < 36 ^ (c + 1) → (mkT n).size ≤ c + 1:=by
 intro c
 induction c with
 | zero => intro n h; have h : n < 36:=by simpa using h
           rw [mkT_lt h,dig36_size h]; omega
 | succ c ih =>
  intro n h;by_cases h2 : n < 36
  ·rw [mkT_lt h2,dig36_size h2]; omega
  ·have h3 : n / 36 < 36 ^ (c + 1):=Nat.div_lt_of_lt_mul (by rw [Nat.pow_succ,Nat.mul_comm] at h; exact h)
   have:=ih _ h3;unfold mkT;rw [mkP_ge h2,ByteArray.size_append,dig36_size (Nat.mod_lt _ (by omega))];omega
theorem mkT_six {n : Nat} (h : n ≤ 1000000000) : (mkT n).size ≤ 6:=mkT_size 5 n (Nat.lt_of_le_of_lt h (by decide))
def mkOf (n : Int) : ByteArray:=if 0 ≤ n ∧ n ≤ 1000000000 then mkT n.toNat else { data:=#[] }
theorem mkOf_no {n : Int} (h : n < 0 ∨ 1000000000 < n) : mkOf n = { data:=#[] }:=if_neg (by omega)
theorem mkOf_yes {n : Nat} (h : n ≤ 1000000000) : mkOf (n : Int) = mkT n:=by unfold mkOf; rw [if_pos (by omega),Int.toNat_natCast]
theorem mkOf_size (n : Int) : (mkOf n).size ≤ 6:=by
 unfold mkOf
 split
 ·next h => exact mkT_six (by omega)
 ·exact Nat.zero_le _
def nm1 (c : Int) : ByteArray:=if c = 38 then { data:=#[38,97,109,112,59] } else if c = 60 then { data:=#[38,108,116,59] } else if c = 62 then { data:=#[38,103,116,59] } else if c = 34 then { data:=#[38,113,117,111,116,59] } else { data:=#[] }
def spc (c : Int) : Prop:=c = 38 ∨ c = 60 ∨ c = 62 ∨ c = 34
instance (c : Int) : Decidable (spc c):=inferInstanceAs (Decidable (_ ∨ _ ∨ _ ∨ _))
def one8 (c : Int) : ByteArray:={ data:=#[UInt8.ofNat c.toNat] }
def enc1 (c : Int) : ByteArray:=if spc c then nm1 c else one8 c
theorem nm1_no {c : Int} (h : ¬ spc c) : nm1 c = { data:=#[] }:=by
 unfold spc at h;unfold nm1;rw [if_neg (by omega),if_neg (by omega),if_neg (by omega),if_neg (by omega)]
theorem one8_size (c : Int) : (one8 c).size = 1:=rfl
theorem one8_bb {c : Int} (h0 : 0 ≤ c) (h1 : c ≤ 255) : bb (one8 c) 0 = c:=by
 show (((UInt8.ofNat c.toNat).toNat : Nat) : Int) = c
 rw [UInt8.toNat_ofNat']; omega
theorem enc1_size (c : Int) : 1 ≤ (enc1 c).size ∧ (enc1 c).size ≤ 6:=by
 unfold enc1
 split
 ·next h => rcases h with rfl | rfl | rfl | rfl <;> decide
 ·rw [one8_size]; omega
def escTo (t : ByteArray) : Nat → ByteArray
 | 0 => { data:=#[] }
 | k + 1 => escTo t k ++ enc1 (bb t k)
def escOf (t : ByteArray) : ByteArray:=escTo t t.size
theorem escTo_size (t : ByteArray) (k : Nat) : k ≤ (escTo t k).size ∧ (escTo t k).size ≤ 6 * k:=by
 induction k with
 | zero => exact ⟨Nat.le_refl _,Nat.le_refl _⟩
 | succ k ih => rw [escTo,ByteArray.size_append]; have:=enc1_size (bb t k); omega
theorem escTo_congr {t u : ByteArray} {k : Nat} (h : ∀ j,j < k → bb t j = bb u j) : escTo t k = escTo u k:=by
 induction k with
 | zero => rfl
 | succ k ih => rw [escTo,escTo,ih (fun j hj => h j (by omega)),h k (by omega)]
theorem escTo_more (t : ByteArray) {k m : Nat} (h : k ≤ m) : ∃ r,escTo t m = escTo t k ++ r:=by
 induction m with
 | zero => obtain rfl : k = 0:=by omega
           exact ⟨{ data:=#[] },(app_empty _).symm⟩
 | succ m ih =>
  rcases Nat.lt_succ_iff_lt_or_eq.1 (Nat.lt_succ_of_le h) with h1 | rfl
  ·obtain ⟨r,hr⟩:=ih (by omega)
   exact ⟨r ++ enc1 (bb t m),by rw [escTo,hr,app_assoc]⟩
  ·exact ⟨{ data:=#[] },(app_empty _).symm⟩
def isNm (s : ByteArray) (p : Nat) (c : Int) : Prop:=p + (nm1 c).size ≤ s.size ∧ s.extract p (p + (nm1 c).size) = nm1 c
instance (s : ByteArray) (p : Nat) (c : Int) : Decidable (isNm s p c):=inferInstanceAs (Decidable (_ ∧ _))
theorem ext_bb {s x : ByteArray} {p : Nat} (h : p + x.size ≤ s.size) (e : s.extract p (p + x.size) = x) {j : Nat} (hj : j < x.size) : bb s (p + j) = bb x j:=by
 have h1 : bb (s.extract p (p + x.size)) j = bb x j:=by rw [e]
 rwa [bb_extract h (by omega)] at h1
theorem isNm_b0 {s : ByteArray} {p : Nat} {c : Int} (hc : spc c) (h : isNm s p c) : bb s p = 38:=by
 have:=ext_bb h.1 h.2 (j:=0) (by rcases hc with rfl | rfl | rfl | rfl <;> decide);rw [Nat.add_zero] at this;rw [this];rcases hc with rfl | rfl | rfl | rfl <;> rfl
theorem isNm_b1 {s : ByteArray} {p : Nat} {c : Int} (hc : spc c) (h : isNm s p c) : bb s (p + 1) = bb (nm1 c) 1 :=
 ext_bb h.1 h.2 (j:=1) (by rcases hc with rfl | rfl | rfl | rfl <;> decide)
theorem isNm_one {s : ByteArray} {p : Nat} {c d : Int} (hc : spc c) (hd : spc d) (h1 : isNm s p c) (h2 : isNm s p d) : c = d:=by
 have e1:=isNm_b1 hc h1;have e2:=isNm_b1 hd h2;rw [e1] at e2;rcases hc with rfl | rfl | rfl | rfl <;> rcases hd with rfl | rfl | rfl | rfl <;> first | rfl | (exact absurd e2 (by decide))
def rd1 (s : ByteArray) (p : Nat) : Int × Nat :=
 if bb s p = 38 then (if isNm s p 38 then (38,5) else if isNm s p 60 then (60,4) else if isNm s p 62 then (62,4) else if isNm s p 34 then (34,6) else (0,0))
 else if bb s p < 32 ∨ 126 < bb s p ∨ bb s p = 60 ∨ bb s p = 62 ∨ bb s p = 34 then (0,0) else (bb s p,1)
theorem rd1_nm {s : ByteArray} {p : Nat} {c : Int} (hc : spc c) (h : isNm s p c) : rd1 s p = (c,(nm1 c).size):=by
 unfold rd1;rw [if_pos (isNm_b0 hc h)];have ne : ∀ d,spc d → d ≠ c → ¬ isNm s p d:=fun d hd hne hn => hne (isNm_one hd hc hn h)
 rcases hc with rfl | rfl | rfl | rfl
 ·rw [if_pos h]; rfl
 ·rw [if_neg (ne 38 (by decide) (by decide)),if_pos h]; rfl
 ·rw [if_neg (ne 38 (by decide) (by decide)),if_neg (ne 60 (by decide) (by decide)),if_pos h]; rfl
 ·rw [if_neg (ne 38 (by decide) (by decide)),if_neg (ne 60 (by decide) (by decide)),if_neg (ne 62 (by decide) (by decide)),if_pos h]; rfl
theorem rd1_none {s : ByteArray} {p : Nat} (hb : bb s p = 38) (h : ∀ c,spc c → ¬ isNm s p c) : rd1 s p = (0,0):=by
 unfold rd1;rw [if_pos hb,if_neg (h 38 (by decide)),if_neg (h 60 (by decide)),if_neg (h 62 (by decide)),if_neg (h 34 (by decide))]
theorem rd1_bad {s : ByteArray} {p : Nat} (hb : bb s p ≠ 38) (h : bb s p < 32 ∨ 126 < bb s p ∨ bb s p = 60 ∨ bb s p = 62 ∨ bb s p = 34) : rd1 s p = (0,0):=by
 unfold rd1; rw [if_neg hb,if_pos h]
theorem rd1_one {s : ByteArray} {p : Nat} (h0 : ¬ spc (bb s p)) (h1 : 32 ≤ bb s p ∧ bb s p ≤ 126) : rd1 s p = (bb s p,1):=by
 unfold spc at h0;unfold rd1; rw [if_neg (by omega),if_neg (by omega)]
theorem rd1_enc {s : ByteArray} {p : Nat} {c : Int} (hc : 32 ≤ c ∧ c ≤ 126) (h1 : p + (enc1 c).size ≤ s.size) (h2 : s.extract p (p + (enc1 c).size) = enc1 c) : rd1 s p = (c,(enc1 c).size):=by
 by_cases hs : spc c
 ·have e : enc1 c = nm1 c:=if_pos hs
  rw [e] at h1 h2 ⊢;exact rd1_nm hs ⟨h1,h2⟩
 ·have e : enc1 c = one8 c:=if_neg hs
  rw [e] at h1 h2 ⊢;have hb:=ext_bb h1 h2 (j:=0) (by rw [one8_size]; omega);rw [Nat.add_zero,one8_bb (by omega) (by omega)] at hb;have:=rd1_one (s:=s) (p:=p) (by rw [hb]; exact hs) (by rw [hb]; exact hc);rw [this,hb]; rfl
theorem rd1_of {s : ByteArray} {p : Nat} (h : (rd1 s p).2 ≠ 0) : (32 ≤ (rd1 s p).1 ∧ (rd1 s p).1 ≤ 126) ∧ p + (rd1 s p).2 ≤ s.size ∧ (rd1 s p).2 = (enc1 (rd1 s p).1).size ∧ s.extract p (p + (rd1 s p).2) = enc1 (rd1 s p).1:=by
 by_cases hb : bb s p = 38
 ·by_cases hx : ∃ c,spc c ∧ isNm s p c
  ·obtain ⟨c,hc,hn⟩:=hx
   rw [rd1_nm hc hn];have e : enc1 c = nm1 c:=if_pos hc;exact ⟨by rcases hc with rfl | rfl | rfl | rfl <;> decide,hn.1,by rw [e],by rw [e]; exact hn.2⟩
  ·rw [rd1_none hb (fun c hc hn => hx ⟨c,hc,hn⟩)] at h
   exact absurd rfl h
 ·by_cases hq : bb s p < 32 ∨ 126 < bb s p ∨ bb s p = 60 ∨ bb s p = 62 ∨ bb s p = 34
  ·rw [rd1_bad hb hq] at h; exact absurd rfl h
  ·have hs : ¬ spc (bb s p):=by unfold spc; omega
   rw [rd1_one hs (by omega)];have hlt : p < s.size:=by
    rcases Nat.lt_or_ge p s.size with q | q
    ·exact q
    ·rw [bb_out q] at hq; omega
   have e : enc1 (bb s p) = one8 (bb s p):=if_neg hs;refine ⟨by omega,by show p + 1 ≤ _; omega,by rw [e]; rfl,?_⟩;rw [e];refine ext_byte hlt ?_;rw [UInt8.toNat_ofNat']; have:=bb_ge s p; omega
theorem rd1_le (s : ByteArray) (p : Nat) : (rd1 s p).2 ≤ 6:=by
 by_cases h : (rd1 s p).2 = 0
 ·omega
 ·rw [(rd1_of h).2.2.1]; exact (enc1_size _).2
theorem rd1_tail {s : ByteArray} {a : Nat} (h : a ≤ s.size) : rd1 (s.extract a s.size) 0 = rd1 s a:=by
 have hz : (s.extract a s.size).size = s.size - a:=size_ext (Nat.le_refl _);have hb : bb (s.extract a s.size) 0 = bb s a:=by rw [bb_tail h,Nat.add_zero]
 have hn : ∀ c,isNm (s.extract a s.size) 0 c ↔ isNm s a c:=fun c => by
  unfold isNm;rw [hz];constructor
  ·rintro ⟨h1,h2⟩
   rw [ext_ext (Nat.le_refl _) (by omega),Nat.add_zero,Nat.zero_add] at h2;exact ⟨by omega,h2⟩
  ·rintro ⟨h1,h2⟩
   refine ⟨by omega,?_⟩;rw [ext_ext (Nat.le_refl _) (by omega),Nat.add_zero,Nat.zero_add];exact h2
 unfold rd1;simp only [hb,hn]
def unG (s : ByteArray) : Nat → Nat → ByteArray → Option ByteArray
 | 0,p,u => if p = s.size then some u else none
 | n + 1,p,u => if p = s.size then some u else if (rd1 s p).2 = 0 ∨ u.size = 80 then none else unG s n (p + (rd1 s p).2) (u ++ one8 (rd1 s p).1)
def unD (s : ByteArray) : Option ByteArray:=unG s 80 0 { data:=#[] }
def unOk (s : ByteArray) : Bool:=(unD s).isSome
def unOf (s : ByteArray) : ByteArray:=(unD s).getD { data:=#[] }
theorem un_some {s t : ByteArray} (h : unD s = some t) : unOf s = t ∧ unOk s = true:=by unfold unOf unOk; rw [h]; exact ⟨rfl,rfl⟩
theorem un_none {s : ByteArray} (h : unD s = none) : unOf s = { data:=#[] } ∧ unOk s = false:=by unfold unOf unOk; rw [h]; exact ⟨rfl,rfl⟩
theorem unG_done {s : ByteArray} (n : Nat) (u : ByteArray) : unG s n s.size u = some u:=by cases n <;> rw [unG,if_pos rfl]
theorem unG_bad {s : ByteArray} {p : Nat} {u : ByteArray} (hp : p < s.size) (h : (rd1 s p).2 = 0) (n : Nat) : unG s n p u = none:=by
 cases n with
 | zero => rw [unG,if_neg (by omega)]
 | succ n => rw [unG,if_neg (by omega),if_pos (.inl h)]
theorem unG_full {s : ByteArray} {p : Nat} {u : ByteArray} (hp : p < s.size) (h : u.size = 80) (n : Nat) : unG s n p u = none:=by
 cases n with
 | zero => rw [unG,if_neg (by omega)]
 | succ n => rw [unG,if_neg (by omega),if_pos (.inr h)]
theorem unG_step {s : ByteArray} {p : Nat} {u : ByteArray} (hp : p < s.size) (h : (rd1 s p).2 ≠ 0) (hu : u.size < 80) : unG s (80 - u.size) p u = unG s (80 - (u.size + 1)) (p + (rd1 s p).2) (u ++ one8 (rd1 s p).1):=by
 obtain ⟨n,hn⟩ : ∃ n,80 - u.size = n + 1:=⟨80 - u.size - 1,by omega⟩;rw [hn,unG,if_neg (by omega),if_neg (by omega),show 80 - (u.size + 1) = n by omega]
def UnR (s t : ByteArray) : Prop:=Text t ∧ escOf t = s
theorem bb_app {a b : ByteArray} {k : Nat} : bb (a ++ b) k = if k < a.size then bb a k else bb b (k - a.size):=by
 split
 ·next h => exact bb_left h
 ·next h =>
  obtain ⟨d,rfl⟩ : ∃ d,k = a.size + d:=⟨k - a.size,by omega⟩;rw [bb_right,Nat.add_sub_cancel_left]
theorem text_snoc {u : ByteArray} {c : Int} (h : Text u) (hu : u.size < 80) (hc : 32 ≤ c ∧ c ≤ 126) : Text (u ++ one8 c):=by
 refine ⟨by rw [ByteArray.size_append,one8_size]; omega,fun j hj => ?_⟩;rw [ByteArray.size_append,one8_size] at hj;rw [bb_app]
 split
 ·next hlt => exact h.2 j hlt
 ·rw [show j - u.size = 0 by omega,one8_bb (by omega) (by omega)]; exact hc
theorem escOf_snoc {u : ByteArray} {c : Int} (hc : 0 ≤ c ∧ c ≤ 255) : escOf (u ++ one8 c) = escOf u ++ enc1 c:=by
 unfold escOf;rw [ByteArray.size_append,one8_size,escTo,bb_app,if_neg (by omega),Nat.sub_self,one8_bb hc.1 hc.2]
 congr 1
 exact escTo_congr (fun j hj => by rw [bb_app,if_pos hj])
theorem unG_sound {s : ByteArray} : ∀ (n p : Nat) (u t : ByteArray),Text u → p ≤ s.size → escOf u = s.extract 0 p → unG s n p u = some t → UnR s t:=by
 intro n
 induction n with
 | zero =>
  intro p u t hu hp he h;rw [unG] at h
  split at h
  ·next hq => injection h with h; subst h; subst hq; exact ⟨hu,by rw [he,extract_all]⟩
  ·cases h
 | succ n ih =>
  intro p u t hu hp he h;rw [unG] at h
  split at h
  ·next hq => injection h with h; subst h; subst hq; exact ⟨hu,by rw [he,extract_all]⟩
  ·split at h
   ·cases h
   ·next hne =>
    have h0 : (rd1 s p).2 ≠ 0:=fun e => hne (.inl e)
    obtain ⟨hc,hl,hs,hx⟩:=rd1_of h0;have h80 : u.size < 80:=by have:=hu.1; have : u.size ≠ 80:=fun e => hne (.inr e); omega
    refine ih _ _ _ (text_snoc hu h80 hc) hl ?_ h;rw [escOf_snoc (by omega),he,← hx,ext_cat (Nat.zero_le _) (by omega) hl]
theorem esc_piece {s t : ByteArray} (he : escOf t = s) {k : Nat} (hk : k < t.size) : (escTo t k).size + (enc1 (bb t k)).size ≤ s.size ∧ s.extract (escTo t k).size ((escTo t k).size + (enc1 (bb t k)).size) = enc1 (bb t k):=by
 obtain ⟨r,hr⟩:=escTo_more t (k:=k + 1) (m:=t.size) hk;have h1 : s = (escTo t k ++ enc1 (bb t k)) ++ r:=by rw [← he]; exact hr
 have hz : s.size = (escTo t k).size + (enc1 (bb t k)).size + r.size:=by rw [h1,ByteArray.size_append,ByteArray.size_append]
 refine ⟨by omega,?_⟩;apply ba_bb
 ·rw [size_ext (by omega)]; omega
 ·intro j hj
  rw [size_ext (by omega)] at hj;rw [bb_extract (by omega) (by omega),h1,bb_left (by rw [ByteArray.size_append]; omega),bb_right]
theorem ext_zero (t : ByteArray) : t.extract 0 0 = { data:=#[] }:=by
 apply ba_bb
 ·rw [size_ext (Nat.zero_le _)]; rfl
 ·intro k hk; rw [size_ext (Nat.zero_le _)] at hk; omega
theorem unD_yes {s t : ByteArray} (h : UnR s t) : unD s = some t:=by
 obtain ⟨ht,he⟩:=h;have step : ∀ j,j ≤ t.size → unD s = unG s (80 - j) (escTo t j).size (t.extract 0 j):=by
  intro j
  induction j with
  | zero => intro _; show unG s 80 0 _ = unG s 80 0 _; rw [ext_zero]
  | succ j ih =>
   intro hj;obtain ⟨p1,p2⟩:=esc_piece he (k:=j) (by omega);have hr:=rd1_enc (ht.2 j (by omega)) p1 p2;have hsz : (t.extract 0 j).size = j:=by rw [size_ext (by omega)]; omega
   have h1:=(enc1_size (bb t j)).1;rw [ih (by omega)];have hst:=unG_step (s:=s) (p:=(escTo t j).size) (u:=t.extract 0 j) (by omega) (by rw [hr]; show (enc1 _).size ≠ 0; omega) (by rw [hsz]; have:=ht.1; omega);rw [hsz] at hst;rw [hst,hr];have e1 : (escTo t j).size + (enc1 (bb t j)).size = (escTo t (j + 1)).size:=by rw [escTo,ByteArray.size_append]
   have e2 : t.extract 0 j ++ one8 (bb t j) = t.extract 0 (j + 1):=by
    have : t.extract j (j + 1) = one8 (bb t j):=ext_byte (by omega) (by rw [UInt8.toNat_ofNat']; have:=bb_ge t j; omega);rw [← this,ext_cat (Nat.zero_le _) (by omega) hj]
   show unG s _ ((escTo t j).size + (enc1 (bb t j)).size) _ = _
   rw [e1,e2]
 rw [step t.size (Nat.le_refl _),extract_all,show (escTo t t.size).size = s.size by rw [← he]; rfl,unG_done]
theorem text_empty : Text { data:=#[] }:=⟨Nat.zero_le _,fun j hj => absurd hj (Nat.not_lt_zero j)⟩
theorem unD_iff {s t : ByteArray} : unD s = some t ↔ UnR s t:=by
 refine ⟨fun h => unG_sound 80 0 _ t text_empty (Nat.zero_le _) ?_ h,unD_yes⟩;apply ba_bb
 ·rw [size_ext (Nat.zero_le _)]; rfl
 ·intro k hk; exact absurd hk (Nat.not_lt_zero k)
theorem un_valid {s : ByteArray} (h : unOk s = true) : Text (unOf s):=by
 unfold unOk at h;obtain ⟨t,ht⟩:=Option.isSome_iff_exists.1 h;rw [(un_some ht).1]; exact (unD_iff.1 ht).1
theorem unOf_size (s : ByteArray) : (unOf s).size ≤ 80:=by
 cases h : unD s with
 | none => rw [(un_none h).1]; exact Nat.zero_le _
 | some t => rw [(un_some h).1]; exact (unD_iff.1 h).1.1
end Go.Proofs.YtfnmlffpnmmcdaaGreatDoor
namespace Go.Proofs
set_option maxRecDepth 100000
open Go.Shelf
def Tryz.lays156_ren : Go.Shelf.Ren:=⟨fun | 156 => 98 | 165 => 125 | 166 => 126 | 169 => 127 | 240 => 149 | 241 => 150 | 276 => 170 | 277 => 171 | n => n,fun | 31 => 51 | 9 => 9 | 3 => 3 | 4 => 4 | 0 => 0 | 20 => 20 | 72 => 142 | 76 => 146 | 70 => 140 | 37 => 40 | 75 => 145 | 127 => 158 | 164 => 167 | 5 => 5 | 80 => 148 | n => n,fun | n => n⟩
theorem Tryz.lays156 : Go.Proofs.Lays.n156 Tryz.prog Tryz.lays156_ren:={
 mixed:=by kernel_rfl
 f156:=Tryz.func98.trans (congrArg some (by kernel_rfl))
 f165:=Tryz.func125.trans (congrArg some (by kernel_rfl))
 f166:=Tryz.func126.trans (congrArg some (by kernel_rfl))
 f169:=Tryz.func127.trans (congrArg some (by kernel_rfl))
 f240:=Tryz.func149.trans (congrArg some (by kernel_rfl))
 f241:=Tryz.func150.trans (congrArg some (by kernel_rfl))
 f276:=Tryz.func170.trans (congrArg some (by kernel_rfl))
 f277:=Tryz.func171.trans (congrArg some (by kernel_rfl))
 t0:=Tryz.underlying0
 a0:=Tryz.isAgg0
 z0:=Tryz.sizeOf0
 v0:=Tryz.zeroValue0
 t3:=Tryz.underlying3
 a3:=Tryz.isAgg3
 z3:=Tryz.sizeOf3
 v3:=Tryz.zeroValue3
 t4:=Tryz.underlying4
 a4:=Tryz.isAgg4
 z4:=Tryz.sizeOf4
 v4:=Tryz.zeroValue4
 t9:=Tryz.underlying9
 a9:=Tryz.isAgg9
 z9:=Tryz.sizeOf9
 v9:=Tryz.zeroValue9
 t20:=Tryz.underlying20
 a20:=Tryz.isAgg20
 z20:=Tryz.sizeOf20
 v20:=Tryz.zeroValue20
 t31:=Tryz.underlying51
 a31:=Tryz.isAgg51
 z31:=Tryz.sizeOf51
 v31:=Tryz.zeroValue51
 t37:=Tryz.underlying40
 a37:=Tryz.isAgg40
 z37:=Tryz.sizeOf40
 v37:=Tryz.zeroValue40
 t70:=Tryz.underlying140
 a70:=Tryz.isAgg140
 z70:=Tryz.sizeOf140
 v70:=Tryz.zeroValue140
 t72:=Tryz.underlying142
 a72:=Tryz.isAgg142
 z72:=Tryz.sizeOf142
 v72:=Tryz.zeroValue142
 t75:=Tryz.underlying145
 a75:=Tryz.isAgg145
 z75:=Tryz.sizeOf145
 v75:=Tryz.zeroValue145
 t76:=Tryz.underlying146
 a76:=Tryz.isAgg146
 z76:=Tryz.sizeOf146
 v76:=Tryz.zeroValue146
 t127:=Tryz.underlying158
 a127:=Tryz.isAgg158
 z127:=Tryz.sizeOf158
 v127:=Tryz.zeroValue158
 t164:=Tryz.underlying167
 a164:=Tryz.isAgg167
 z164:=Tryz.sizeOf167
 v164:=Tryz.zeroValue167 }
theorem Tryz.Builder_Extra_156 : Builder.Extra Tryz.prog Tryz.lays156_ren:={
 sizeBuilder:=by kernel_rfl
 liesBuilder:=by kernel_rfl
 t5:=Tryz.underlying5
 a5:=Tryz.isAgg5
 z5:=Tryz.sizeOf5
 v5:=Tryz.zeroValue5
 infoByte:=by kernel_rfl
 cellsByte:=by kernel_rfl
 sizeByte:=by kernel_rfl
 neB5:=by decide }
open Go.RowKit in
theorem Tryz.strings_Join (bk o c : Nat) (xs : List ByteArray) (sep : ByteArray) (w : World) (hcells : ∀ (j : Nat) x,xs[j]? = some x → w.cell? ⟨bk,o + j,none⟩ = some (.string x)) (hbk : bk < w.heap.size) (hN : xs.length ≤ 140737488355328) (hcap : xs.length ≤ c) (hlen : (Lib.join (xs.map (·.data.toList)) sep.data.toList).length ≤ 140737488355328) :
    Calls Tryz.prog 98 #[.slice (some ⟨bk,o,none⟩) xs.length c,.string sep] w fun e w' => e = .returned (.string ⟨(Lib.join (xs.map (·.data.toList)) sep.data.toList).toArray⟩) ∧ Below w.heap.size w w':=Any.strings_Join Tryz.lays156 Tryz.Builder_Extra_156 bk o c xs sep w hcells hbk hN hcap hlen
def Tryz.lays137_ren : Go.Shelf.Ren:=⟨fun | 137 => 174 | 217 => 151 | 266 => 172 | n => n,fun | 9 => 9 | 5 => 5 | 3 => 3 | n => n,fun | n => n⟩
theorem Tryz.lays137 : Go.Proofs.Lays.n137 Tryz.prog Tryz.lays137_ren:={
 mixed:=by kernel_rfl
 f137:=Tryz.func174.trans (congrArg some (by kernel_rfl))
 f217:=Tryz.func151.trans (congrArg some (by kernel_rfl))
 f266:=Tryz.func172.trans (congrArg some (by kernel_rfl))
 t3:=Tryz.underlying3
 a3:=Tryz.isAgg3
 z3:=Tryz.sizeOf3
 v3:=Tryz.zeroValue3
 t5:=Tryz.underlying5
 a5:=Tryz.isAgg5
 z5:=Tryz.sizeOf5
 v5:=Tryz.zeroValue5
 t9:=Tryz.underlying9
 a9:=Tryz.isAgg9
 z9:=Tryz.sizeOf9
 v9:=Tryz.zeroValue9 }
open Go.RowKit in
theorem Tryz.strings_IndexByte (s : ByteArray) (c : Int) (w : World) :
    Calls Tryz.prog 174 #[.string s,.int .u8 c] w fun e w' => e = .returned (.int .i64 (Lib.indexByte s.data.toList c.toNat.toUInt8)) ∧ w' = w:=Any.strings_IndexByte Tryz.lays137 s c w
def Tryz.lays219_ren : Go.Shelf.Ren:=⟨fun | 219 => 128 | 217 => 151 | 225 => 152 | 224 => 153 | 267 => 154 | 266 => 172 | 314 => 173 | n => n,fun | 9 => 9 | 3 => 3 | 4 => 4 | 5 => 5 | 46 => 160 | 146 => 171 | 51 => 170 | n => n,fun | 1 => 1 | n => n⟩
theorem Tryz.lays219 : Go.Proofs.Lays.n219 Tryz.prog Tryz.lays219_ren:={
 mixed:=by kernel_rfl
 f217:=Tryz.func151.trans (congrArg some (by kernel_rfl))
 f219:=Tryz.func128.trans (congrArg some (by kernel_rfl))
 f224:=Tryz.func153.trans (congrArg some (by kernel_rfl))
 f225:=Tryz.func152.trans (congrArg some (by kernel_rfl))
 f266:=Tryz.func172.trans (congrArg some (by kernel_rfl))
 f267:=Tryz.func154.trans (congrArg some (by kernel_rfl))
 f314:=Tryz.func173.trans (congrArg some (by kernel_rfl))
 t3:=Tryz.underlying3
 a3:=Tryz.isAgg3
 z3:=Tryz.sizeOf3
 v3:=Tryz.zeroValue3
 t4:=Tryz.underlying4
 a4:=Tryz.isAgg4
 z4:=Tryz.sizeOf4
 v4:=Tryz.zeroValue4
 t5:=Tryz.underlying5
 a5:=Tryz.isAgg5
 z5:=Tryz.sizeOf5
 v5:=Tryz.zeroValue5
 t9:=Tryz.underlying9
 a9:=Tryz.isAgg9
 z9:=Tryz.sizeOf9
 v9:=Tryz.zeroValue9
 t46:=Tryz.underlying160
 a46:=Tryz.isAgg160
 z46:=Tryz.sizeOf160
 v46:=Tryz.zeroValue160
 t51:=Tryz.underlying170
 a51:=Tryz.isAgg170
 z51:=Tryz.sizeOf170
 v51:=Tryz.zeroValue170
 t146:=Tryz.underlying171
 a146:=Tryz.isAgg171
 z146:=Tryz.sizeOf171
 v146:=Tryz.zeroValue171
 g1:=by kernel_rfl }
open Go.RowKit Go.Lib in
theorem Tryz.stringslite_Index_one (s : ByteArray) (c : UInt8) (w : World) :
    Calls Tryz.prog 128 #[.string s,.string ⟨#[c]⟩] w fun e w' => e = .returned (.int .i64 (Lib.indexByte s.data.toList c)) ∧ w' = w:=Any.stringslite_Index_one Tryz.lays219 s c w
def Tryz.lays99_ren : Go.Shelf.Ren:=⟨fun | 99 => 118 | 206 => 145 | n => n,fun | 9 => 9 | 4 => 4 | 3 => 3 | n => n,fun | n => n⟩
theorem Tryz.lays99 : Go.Proofs.Lays.n99 Tryz.prog Tryz.lays99_ren:={
 mixed:=by kernel_rfl
 f99:=Tryz.func118.trans (congrArg some (by kernel_rfl))
 f206:=Tryz.func145.trans (congrArg some (by kernel_rfl))
 t3:=Tryz.underlying3
 a3:=Tryz.isAgg3
 z3:=Tryz.sizeOf3
 v3:=Tryz.zeroValue3
 t4:=Tryz.underlying4
 a4:=Tryz.isAgg4
 z4:=Tryz.sizeOf4
 v4:=Tryz.zeroValue4
 t9:=Tryz.underlying9
 a9:=Tryz.isAgg9
 z9:=Tryz.sizeOf9
 v9:=Tryz.zeroValue9 }
open Go.RowKit Go.Lib in
theorem Tryz.strings_HasPrefix (s p : ByteArray) (w : World) :
    Calls Tryz.prog 118 #[.string s,.string p] w fun e w' => e = .returned (.bool (Lib.hasPrefix s.data.toList p.data.toList)) ∧ w' = w:=Any.strings_HasPrefix Tryz.lays99 s p w
end Go.Proofs
namespace Go.Proofs.YtfnmlffpnmmcdaaGreatDoor
set_option maxRecDepth 100000
open Go.RowKit
structure Bel (n : Nat) (W : World) where
 u : World
 h : Below n W u
instance (n : Nat) (W : World) : Nonempty (Bel n W):=⟨⟨W,Below.refl _ _⟩⟩
instance (n : Nat) (W : World) : Inhabited (Bel n W):=⟨⟨W,Below.refl _ _⟩⟩
theorem Bel.cell {n : Nat} {W : World} {p : Addr} {v : Value} (h : W.cell? p = some v) (hp : p.block < n) (z : Bel n W) : z.u.cell? p = some v:=(z.h.cell hp).trans h
theorem Bel.size {n : Nat} {W : World} (z : Bel n W) : W.heap.size ≤ z.u.heap.size:=z.h.size
theorem wp_region_bel {P : Program} {id : Nat} {Q : Exit → Act → World → Prop} {a : Act} {w : World} {l : List Oper} (n : Nat) (hm : P.follows .mixedOrders = true) (hB : Region.lexB .any l.toArray = true)
    (h : wpQuiet P l.toArray (fun w' => ∃ z : Bel n w,w' = z.u) (fun a' => ∀ w',(∃ z : Bel n w,w' = z.u) → Q .normal a' w') l a) : (Code.region id l.toArray true).wp P Q a w :=
 wp_region_quiet (C:=fun w' => ∃ z : Bel n w,w' = z.u) hm hB ⟨⟨w.drew,(Below.refl n w).drew⟩,rfl⟩ (by simpa using h)
theorem Calls.bel {P : Program} {f : FuncId} {args : Array Value} {n : Nat} {W : World} {z : Bel n W} {v : Value} (hn : n ≤ W.heap.size)
    (h : Calls P f args z.u fun e w' => e = .returned v ∧ Below z.u.heap.size z.u w') : Calls P f args z.u fun e w'' => e = .returned v ∧ ∃ z' : Bel n W,w'' = z'.u :=
 h.mono fun _ w' ⟨he,hb⟩ => ⟨he,⟨w',z.h.trans (hb.mono (Nat.le_trans hn z.h.size))⟩,rfl⟩
theorem Below.push {a w : World} (h : Below a.heap.size a w) (o : Obj) : Below a.heap.size a (w.alloc o):=h.alloc h.size o
theorem Below.app {a b c : World} (h : Below a.heap.size a b) (k : Below b.heap.size b c) : Below a.heap.size a c:=h.trans (k.mono h.size)
theorem Rd.on {v W : World} {B sz n : Nat} {A : Option Addr} {f : Nat → Value} (h : Rd v B sz A n f) (hB : B ≤ v.heap.size) (hb : Below v.heap.size v W) : Rd W B sz A n f:=h.below (hb.mono hB)
theorem cellOn {v W : World} {p : Addr} {x : Value} (h : v.cell? p = some x) (hp : p.block < v.heap.size) (hb : Below v.heap.size v W) : W.cell? p = some x:=(hb.cell hp).trans h
def esC : Nat → Value
 | 0 => Value.int .u8 38
 | 1 => Value.string { data:=#[38,97,109,112,59] }
 | 2 => Value.int .u8 60
 | 3 => Value.string { data:=#[38,108,116,59] }
 | 4 => Value.int .u8 62
 | 5 => Value.string { data:=#[38,103,116,59] }
 | 6 => Value.int .u8 34
 | 7 => Value.string { data:=#[38,113,117,111,116,59] }
 | _ => undef
def EsTab (w : World) : Prop:=∀ j,j < 8 → w.cell? ⟨4,j,none⟩ = some (esC j)
theorem EsTab.lt {w : World} (h : EsTab w) : 4 < w.heap.size:=World.block_lt_of_cell? _ _ (h 0 (by omega))
theorem EsTab.belowL {B : Nat} {w w' : World} (h : EsTab w) (hb : Below B w w') (hB : 4 < B) : EsTab w':=fun k hk =>
 (hb.cell (p:=⟨_,k,none⟩) hB).trans (h k hk)
theorem EsTab.below {B : Nat} {w w' : World} (h : EsTab w) (hb : Below B w w') (hB : w.heap.size ≤ B) : EsTab w':=h.belowL hb (Nat.lt_of_lt_of_le h.lt hB)
theorem hasPre (s : ByteArray) (c : Int) (w : World) : Calls Tryz.prog 118 #[.string s,.string (nm1 c)] w fun e w' => e = .returned (.bool (decide (isNm s 0 c))) ∧ w' = w:=by
 have h:=Tryz.strings_HasPrefix s (nm1 c) w;rw [hasPrefix_iff] at h;have e : decide ((nm1 c).size ≤ s.size ∧ s.extract 0 (nm1 c).size = nm1 c) = decide (isNm s 0 c):=decide_eq_decide.2 (by unfold isNm; rw [Nat.zero_add]);rw [e] at h;exact h
theorem esIx_0 (w : World) : (Instr.index 181 (.agg #[.int .u8 38,.string { data:=#[38,97,109,112,59] },.int .u8 60,.string { data:=#[38,108,116,59] },.int .u8 62,.string { data:=#[38,103,116,59] },.int .u8 34,.string { data:=#[38,113,117,111,116,59] }]) (.int .i64 0)).run Tryz.prog w = .ok (.agg #[.int .u8 38,.string { data:=#[38,97,109,112,59] }]) w:=by kernel_rfl
theorem esIx_1 (w : World) : (Instr.index 181 (.agg #[.int .u8 38,.string { data:=#[38,97,109,112,59] },.int .u8 60,.string { data:=#[38,108,116,59] },.int .u8 62,.string { data:=#[38,103,116,59] },.int .u8 34,.string { data:=#[38,113,117,111,116,59] }]) (.int .i64 1)).run Tryz.prog w = .ok (.agg #[.int .u8 60,.string { data:=#[38,108,116,59] }]) w:=by kernel_rfl
theorem esIx_2 (w : World) : (Instr.index 181 (.agg #[.int .u8 38,.string { data:=#[38,97,109,112,59] },.int .u8 60,.string { data:=#[38,108,116,59] },.int .u8 62,.string { data:=#[38,103,116,59] },.int .u8 34,.string { data:=#[38,113,117,111,116,59] }]) (.int .i64 2)).run Tryz.prog w = .ok (.agg #[.int .u8 62,.string { data:=#[38,103,116,59] }]) w:=by kernel_rfl
theorem esIx_3 (w : World) : (Instr.index 181 (.agg #[.int .u8 38,.string { data:=#[38,97,109,112,59] },.int .u8 60,.string { data:=#[38,108,116,59] },.int .u8 62,.string { data:=#[38,103,116,59] },.int .u8 34,.string { data:=#[38,113,117,111,116,59] }]) (.int .i64 3)).run Tryz.prog w = .ok (.agg #[.int .u8 34,.string { data:=#[38,113,117,111,116,59] }]) w:=by kernel_rfl
set_option maxHeartbeats 1600000 in
theorem firstByte_any (s : ByteArray) (w : World) (_hs : s.size ≤ maxLen) (hp : 0 < s.size) (hT : EsTab w) : Calls Tryz.prog 178 #[.string s] w fun e w' => e = .returned (.tuple #[.int .u8 (rd1 s 0).1,.int .i64 (rd1 s 0).2]) ∧ Below w.heap.size w w':=by
 unfold maxLen at _hs;have hbb:=bb_eq s;have hgl:=hT.lt;have c0 : w.cell? ⟨4,0,none⟩ = some (Value.int .u8 38):=hT 0 (by omega);have c1 : w.cell? ⟨4,1,none⟩ = some (Value.string { data:=#[38,97,109,112,59] }):=hT 1 (by omega);have c2 : w.cell? ⟨4,2,none⟩ = some (Value.int .u8 60):=hT 2 (by omega);have c3 : w.cell? ⟨4,3,none⟩ = some (Value.string { data:=#[38,108,116,59] }):=hT 3 (by omega);have c4 : w.cell? ⟨4,4,none⟩ = some (Value.int .u8 62):=hT 4 (by omega);have c5 : w.cell? ⟨4,5,none⟩ = some (Value.string { data:=#[38,103,116,59] }):=hT 5 (by omega);have c6 : w.cell? ⟨4,6,none⟩ = some (Value.int .u8 34):=hT 6 (by omega);have c7 : w.cell? ⟨4,7,none⟩ = some (Value.string { data:=#[38,113,117,111,116,59] }):=hT 7 (by omega);have hbge:=bb_ge s 0;have ix0:=esIx_0;have ix1:=esIx_1;have ix2:=esIx_2;have ix3:=esIx_3;have hp0 : ∀ W,Calls Tryz.prog 118 #[.string s,.string { data:=#[38,97,109,112,59] }] W fun e w' => e = .returned (.bool (decide (isNm s 0 38))) ∧ w' = W:=fun W => hasPre s 38 W
 have hp1 : ∀ W,Calls Tryz.prog 118 #[.string s,.string { data:=#[38,108,116,59] }] W fun e w' => e = .returned (.bool (decide (isNm s 0 60))) ∧ w' = W:=fun W => hasPre s 60 W
 have hp2 : ∀ W,Calls Tryz.prog 118 #[.string s,.string { data:=#[38,103,116,59] }] W fun e w' => e = .returned (.bool (decide (isNm s 0 62))) ∧ w' = W:=fun W => hasPre s 62 W
 have hp3 : ∀ W,Calls Tryz.prog 118 #[.string s,.string { data:=#[38,113,117,111,116,59] }] W fun e w' => e = .returned (.bool (decide (isNm s 0 34))) ∧ w' = W:=fun W => hasPre s 34 W
 by_cases hr : bb s 0 < 32 ∨ 126 < bb s 0
 ·have HQ:=Lib.hid (rd1_bad (s:=s) (p:=0) (by omega) (by omega))
  clear hp0 hp1 hp2 hp3;by_cases h3 : bb s 0 < 32
  ·have d0 : decide (bb s 0 < 32) = true:=decide_eq_true h3
   go_enter Tryz.func178,Tryz.ntmps178
   go_wp2_with fail
   go_ret2;exact ⟨by rw [HQ.out]; rfl,Below.refl _ _⟩
  ·have d0 : decide (bb s 0 < 32) = false:=decide_eq_false h3
   have d1 : decide (126 < bb s 0) = true:=decide_eq_true (by omega);go_enter Tryz.func178,Tryz.ntmps178
   go_wp2_with fail
   go_ret2;exact ⟨by rw [HQ.out]; rfl,Below.refl _ _⟩
 have d0 : decide (bb s 0 < 32) = false:=decide_eq_false (by omega);have d1 : decide (126 < bb s 0) = false:=decide_eq_false (by omega);by_cases hx : ∃ c,spc c ∧ isNm s 0 c
 ·obtain ⟨c,hc,hn⟩:=hx
  have hb0:=isNm_b0 hc hn;have HQ:=Lib.hid (rd1_nm hc hn);rw [hb0] at d0 d1;rcases hc with rfl | rfl | rfl | rfl
  ·skip
   rw [decide_eq_true (hn)] at hp0;have HP0:=Lib.hid hp0;clear hp0;clear hp1;clear hp2;clear hp3;clear hn;have hb:=hb0;go_enter Tryz.func178,Tryz.ntmps178
   go_wp2_with fail
   refine wp_loop_rounds 5 ?_;rw [rounds_succ]
   go_wp2_with fail
   refine (HP0.out _).mono ?_;rintro e w' ⟨rfl,rfl⟩
   go_wp2_with fail
   go_quiet (fail)
   go_wp2_with fail
   go_ret2;exact ⟨by rw [HQ.out]; rfl,(by repeat (first | assumption | exact Below.refl _ _ | refine below_drewN ?_ _ | refine Below.alloc ?_ (by first | omega | (simp; done) | (simp; omega)) _))⟩
  ·skip
   rw [decide_eq_false (fun h => absurd (isNm_one (c:=38) (d:=60) (by decide) (by decide) h hn) (by decide))] at hp0;have HP0:=Lib.hid hp0;clear hp0;rw [decide_eq_true (hn)] at hp1;have HP1:=Lib.hid hp1;clear hp1;clear hp2;clear hp3;clear hn;have hb:=hb0;go_enter Tryz.func178,Tryz.ntmps178
   go_wp2_with fail
   refine wp_loop_rounds 5 ?_;rw [rounds_succ]
   go_wp2_with fail
   refine (HP0.out _).mono ?_;rintro e w' ⟨rfl,rfl⟩
   go_wp2_with fail
   rw [rounds_succ]
   go_wp2_with fail
   refine (HP1.out _).mono ?_;rintro e w' ⟨rfl,rfl⟩
   go_wp2_with fail
   go_quiet (fail)
   go_wp2_with fail
   go_ret2;exact ⟨by rw [HQ.out]; rfl,(by repeat (first | assumption | exact Below.refl _ _ | refine below_drewN ?_ _ | refine Below.alloc ?_ (by first | omega | (simp; done) | (simp; omega)) _))⟩
  ·skip
   rw [decide_eq_false (fun h => absurd (isNm_one (c:=38) (d:=62) (by decide) (by decide) h hn) (by decide))] at hp0;have HP0:=Lib.hid hp0;clear hp0;rw [decide_eq_false (fun h => absurd (isNm_one (c:=60) (d:=62) (by decide) (by decide) h hn) (by decide))] at hp1;have HP1:=Lib.hid hp1;clear hp1;rw [decide_eq_true (hn)] at hp2;have HP2:=Lib.hid hp2;clear hp2;clear hp3;clear hn;have hb:=hb0;go_enter Tryz.func178,Tryz.ntmps178
   go_wp2_with fail
   refine wp_loop_rounds 5 ?_;rw [rounds_succ]
   go_wp2_with fail
   refine (HP0.out _).mono ?_;rintro e w' ⟨rfl,rfl⟩
   go_wp2_with fail
   rw [rounds_succ]
   go_wp2_with fail
   refine (HP1.out _).mono ?_;rintro e w' ⟨rfl,rfl⟩
   go_wp2_with fail
   rw [rounds_succ]
   go_wp2_with fail
   refine (HP2.out _).mono ?_;rintro e w' ⟨rfl,rfl⟩
   go_wp2_with fail
   go_quiet (fail)
   go_wp2_with fail
   go_ret2;exact ⟨by rw [HQ.out]; rfl,(by repeat (first | assumption | exact Below.refl _ _ | refine below_drewN ?_ _ | refine Below.alloc ?_ (by first | omega | (simp; done) | (simp; omega)) _))⟩
  ·skip
   rw [decide_eq_false (fun h => absurd (isNm_one (c:=38) (d:=34) (by decide) (by decide) h hn) (by decide))] at hp0;have HP0:=Lib.hid hp0;clear hp0;rw [decide_eq_false (fun h => absurd (isNm_one (c:=60) (d:=34) (by decide) (by decide) h hn) (by decide))] at hp1;have HP1:=Lib.hid hp1;clear hp1;rw [decide_eq_false (fun h => absurd (isNm_one (c:=62) (d:=34) (by decide) (by decide) h hn) (by decide))] at hp2;have HP2:=Lib.hid hp2;clear hp2;rw [decide_eq_true (hn)] at hp3;have HP3:=Lib.hid hp3;clear hp3;clear hn;have hb:=hb0;go_enter Tryz.func178,Tryz.ntmps178
   go_wp2_with fail
   refine wp_loop_rounds 5 ?_;rw [rounds_succ]
   go_wp2_with fail
   refine (HP0.out _).mono ?_;rintro e w' ⟨rfl,rfl⟩
   go_wp2_with fail
   rw [rounds_succ]
   go_wp2_with fail
   refine (HP1.out _).mono ?_;rintro e w' ⟨rfl,rfl⟩
   go_wp2_with fail
   rw [rounds_succ]
   go_wp2_with fail
   refine (HP2.out _).mono ?_;rintro e w' ⟨rfl,rfl⟩
   go_wp2_with fail
   rw [rounds_succ]
   go_wp2_with fail
   refine (HP3.out _).mono ?_;rintro e w' ⟨rfl,rfl⟩
   go_wp2_with fail
   go_quiet (fail)
   go_wp2_with fail
   go_ret2;exact ⟨by rw [HQ.out]; rfl,(by repeat (first | assumption | exact Below.refl _ _ | refine below_drewN ?_ _ | refine Below.alloc ?_ (by first | omega | (simp; done) | (simp; omega)) _))⟩
 have hno : ∀ c,spc c → ¬ isNm s 0 c:=fun c hc hn => hx ⟨c,hc,hn⟩
 clear hx;rw [decide_eq_false (hno 38 (by decide))] at hp0;have HP0:=Lib.hid hp0;clear hp0;rw [decide_eq_false (hno 60 (by decide))] at hp1;have HP1:=Lib.hid hp1;clear hp1;rw [decide_eq_false (hno 62 (by decide))] at hp2;have HP2:=Lib.hid hp2;clear hp2;rw [decide_eq_false (hno 34 (by decide))] at hp3;have HP3:=Lib.hid hp3;clear hp3;by_cases hb : bb s 0 = 38
 ·have HQ:=Lib.hid (rd1_none hb hno)
  clear hno;go_enter Tryz.func178,Tryz.ntmps178
  go_wp2_with fail
  refine wp_loop_rounds 5 ?_;rw [rounds_succ]
  go_wp2_with fail
  refine (HP0.out _).mono ?_;rintro e w' ⟨rfl,rfl⟩
  go_wp2_with fail
  rw [rounds_succ]
  go_wp2_with fail
  refine (HP1.out _).mono ?_;rintro e w' ⟨rfl,rfl⟩
  go_wp2_with fail
  rw [rounds_succ]
  go_wp2_with fail
  refine (HP2.out _).mono ?_;rintro e w' ⟨rfl,rfl⟩
  go_wp2_with fail
  rw [rounds_succ]
  go_wp2_with fail
  refine (HP3.out _).mono ?_;rintro e w' ⟨rfl,rfl⟩
  go_wp2_with fail
  rw [rounds_succ]
  go_wp2_with fail
  go_ret2;exact ⟨by rw [HQ.out]; rfl,(by repeat (first | assumption | exact Below.refl _ _ | refine below_drewN ?_ _ | refine Below.alloc ?_ (by first | omega | (simp; done) | (simp; omega)) _))⟩
 have e38 : (bb s 0 == 38) = false:=beq_eq_false_iff_ne.2 hb;have e38b : ((38 : Int) == bb s 0) = false:=beq_eq_false_iff_ne.2 (Ne.symm hb);have e38n : (bb s 0 != 38) = true:=by simp [hb]
 by_cases hb60 : bb s 0 = 60
 ·have HQ:=Lib.hid (rd1_bad (s:=s) (p:=0) hb (by omega))
  clear hno;rw [hb60] at e38 e38b e38n d0 d1;go_enter Tryz.func178,Tryz.ntmps178
  go_wp2_with fail
  refine wp_loop_rounds 5 ?_;rw [rounds_succ]
  go_wp2_with fail
  refine (HP0.out _).mono ?_;rintro e w' ⟨rfl,rfl⟩
  go_wp2_with fail
  rw [rounds_succ]
  go_wp2_with fail
  refine (HP1.out _).mono ?_;rintro e w' ⟨rfl,rfl⟩
  go_wp2_with fail
  go_ret2;exact ⟨by rw [HQ.out]; rfl,(by repeat (first | assumption | exact Below.refl _ _ | refine below_drewN ?_ _ | refine Below.alloc ?_ (by first | omega | (simp; done) | (simp; omega)) _))⟩
 have e60b : ((60 : Int) == bb s 0) = false:=beq_eq_false_iff_ne.2 (Ne.symm hb60);by_cases hb62 : bb s 0 = 62
 ·have HQ:=Lib.hid (rd1_bad (s:=s) (p:=0) hb (by omega))
  clear hno;rw [hb62] at e38 e38b e38n d0 d1;go_enter Tryz.func178,Tryz.ntmps178
  go_wp2_with fail
  refine wp_loop_rounds 5 ?_;rw [rounds_succ]
  go_wp2_with fail
  refine (HP0.out _).mono ?_;rintro e w' ⟨rfl,rfl⟩
  go_wp2_with fail
  rw [rounds_succ]
  go_wp2_with fail
  refine (HP1.out _).mono ?_;rintro e w' ⟨rfl,rfl⟩
  go_wp2_with fail
  rw [rounds_succ]
  go_wp2_with fail
  refine (HP2.out _).mono ?_;rintro e w' ⟨rfl,rfl⟩
  go_wp2_with fail
  go_ret2;exact ⟨by rw [HQ.out]; rfl,(by repeat (first | assumption | exact Below.refl _ _ | refine below_drewN ?_ _ | refine Below.alloc ?_ (by first | omega | (simp; done) | (simp; omega)) _))⟩
 have e62b : ((62 : Int) == bb s 0) = false:=beq_eq_false_iff_ne.2 (Ne.symm hb62);by_cases hb34 : bb s 0 = 34
 ·have HQ:=Lib.hid (rd1_bad (s:=s) (p:=0) hb (by omega))
  clear hno;rw [hb34] at e38 e38b e38n d0 d1;go_enter Tryz.func178,Tryz.ntmps178
  go_wp2_with fail
  refine wp_loop_rounds 5 ?_;rw [rounds_succ]
  go_wp2_with fail
  refine (HP0.out _).mono ?_;rintro e w' ⟨rfl,rfl⟩
  go_wp2_with fail
  rw [rounds_succ]
  go_wp2_with fail
  refine (HP1.out _).mono ?_;rintro e w' ⟨rfl,rfl⟩
  go_wp2_with fail
  rw [rounds_succ]
  go_wp2_with fail
  refine (HP2.out _).mono ?_;rintro e w' ⟨rfl,rfl⟩
  go_wp2_with fail
  rw [rounds_succ]
  go_wp2_with fail
  refine (HP3.out _).mono ?_;rintro e w' ⟨rfl,rfl⟩
  go_wp2_with fail
  go_ret2;exact ⟨by rw [HQ.out]; rfl,(by repeat (first | assumption | exact Below.refl _ _ | refine below_drewN ?_ _ | refine Below.alloc ?_ (by first | omega | (simp; done) | (simp; omega)) _))⟩
 have e34b : ((34 : Int) == bb s 0) = false:=beq_eq_false_iff_ne.2 (Ne.symm hb34);have HQ:=Lib.hid (rd1_one (s:=s) (p:=0) (by unfold spc; omega) (by omega));clear hno hb hb60 hb62 hb34;go_enter Tryz.func178,Tryz.ntmps178
 go_wp2_with fail
 refine wp_loop_rounds 5 ?_;rw [rounds_succ]
 go_wp2_with fail
 refine (HP0.out _).mono ?_;rintro e w' ⟨rfl,rfl⟩
 go_wp2_with fail
 rw [rounds_succ]
 go_wp2_with fail
 refine (HP1.out _).mono ?_;rintro e w' ⟨rfl,rfl⟩
 go_wp2_with fail
 rw [rounds_succ]
 go_wp2_with fail
 refine (HP2.out _).mono ?_;rintro e w' ⟨rfl,rfl⟩
 go_wp2_with fail
 rw [rounds_succ]
 go_wp2_with fail
 refine (HP3.out _).mono ?_;rintro e w' ⟨rfl,rfl⟩
 go_wp2_with fail
 rw [rounds_succ]
 go_wp2_with fail
 go_ret2;exact ⟨by rw [HQ.out]; rfl,(by repeat (first | assumption | exact Below.refl _ _ | refine below_drewN ?_ _ | refine Below.alloc ?_ (by first | omega | (simp; done) | (simp; omega)) _))⟩
theorem info_u8x : (Tryz.prog.info? 5).map (fun i => (i.zero,i.size,i.bytes)) = some (some (.int .u8 0),1,1):=by kernel_rfl
theorem push_one (u : ByteArray) (x : UInt8) : u.push x = u ++ { data:=#[x] }:=by
 apply ba_ext; rw [ByteArray.toList_eq,ByteArray.toList_eq,ByteArray.data_append]; simp
theorem fold_ext (u : ByteArray) : ∀ k,k ≤ u.size → ((List.range k).map (fun j => bb u j)).foldl (fun r x => r.push (UInt8.ofNat x.toNat)) ByteArray.empty = u.extract 0 k:=by
 intro k
 induction k with
 | zero => intro _; rw [ext_zero]; rfl
 | succ k ih =>
  intro hk;rw [List.range_succ,List.map_append,List.foldl_append,ih (by omega)]
  show (u.extract 0 k).push _ = _
  have : u.extract k (k + 1) = { data:=#[UInt8.ofNat (bb u k).toNat] }:=ext_byte (by omega) (by rw [UInt8.toNat_ofNat']; have:=bb_ge u k; omega);rw [push_one,← this,ext_cat (Nat.zero_le _) (by omega) hk]
def bC (u : ByteArray) (j : Nat) : Value:=.int .u8 (bb u j)
theorem convB (W : World) (b cap : Nat) (u : ByteArray) (h : ∀ j,j < u.size → W.cell? ⟨b,j,none⟩ = some (bC u j)) : (convert 40 9 (.slice (some ⟨b,0,none⟩) u.size cap)).run Tryz.prog W = .ok (.string u) W:=by
 rw [run_convert_bytes_string _ 40 9 5 _ _ _ Tryz.underlying40 Tryz.underlying5 Tryz.underlying9]
 have hl:=run_loadCells_list (P:=Tryz.prog) (w:=W) ⟨b,0,none⟩ (((List.range u.size).map (fun j => bb u j)).map (Value.int .u8)) (fun j v hj => by
  have hj1 : j < u.size:=by
   rcases Nat.lt_or_ge j u.size with q | q
   ·exact q
   ·rw [List.getElem?_eq_none (by simpa using q)] at hj; cases hj
  rw [List.getElem?_map,List.getElem?_map,List.getElem?_range hj1] at hj;simp only [Option.map_some,Option.some.injEq] at hj;subst hj;have e : (⟨b,0,none⟩ : Addr).add j = ⟨b,0 + j,none⟩:=by unfold Addr.add; split <;> simp_all
  rw [e,Nat.zero_add]; exact h j hj1)
 rw [List.length_map,show ((List.range u.size).map (fun j => bb u j)).length = u.size by simp] at hl;rw [run_bytesToString W ⟨b,0,none⟩ u.size cap ((List.range u.size).map (fun j => bb u j)) hl];have e:=fold_ext u u.size (Nat.le_refl _);rw [extract_all] at e
 first | rw [e] | (show Result.ok (Value.string _) _ = _; rw [e]) | (rw [show ((List.range u.size).map (fun j => bb u j)).foldl (fun r x => r.push (UInt8.ofNat x.toNat)) ByteArray.empty = u from e])
theorem convN (W : World) : (convert 40 9 (.slice none 0 0)).run Tryz.prog W = .ok (.string { data:=#[] }) W:=by
 simp [convert,Conv.bytesToString,go_sem];rfl
theorem bC_snoc {u : ByteArray} {c : Int} (h0 : 0 ≤ c) (h1 : c ≤ 255) {j : Nat} (hj : j < u.size + 1) : (if j < u.size * 1 then bC u j else Value.int .u8 c) = bC (u ++ one8 c) j:=by
 unfold bC;rw [bb_app];by_cases h : j < u.size
 ·rw [if_pos (by omega),if_pos h]
 ·rw [if_neg (by omega),if_neg h,show j - u.size = 0 by omega,one8_bb h0 h1]
set_option maxHeartbeats 1600000 in
theorem implUnescapeText_any (s : ByteArray) (w : World) (hs : s.size ≤ maxLen) (hT : EsTab w) : Calls Tryz.prog 175 #[.string s] w fun e w' => e = .returned (.tuple #[.string (unOf s),.bool (unOk s)]) ∧ Below w.heap.size w w':=by
 have hsm:=hs;unfold maxLen at hs;have HT:=Lib.hid hT;have hgl:=hT.lt;clear hT;go_enter Tryz.func175,Tryz.ntmps175
 go_wp2_with fail
 go_loopw [4,5,6,7] (fun o i _ _ wr => ∃ (p : Nat) (u : ByteArray) (A : Option Addr) (cap : Nat),p ≤ s.size ∧ i = .int .i64 p ∧ o = .slice A u.size cap ∧ u.size ≤ 80 ∧ Own wr w.heap.size 5 1 A u.size cap (bC u) ∧ Hid (unD s = unG s (80 - u.size) p u) ∧ Below w.heap.size w wr) (fun _ i _ _ _ => s.size - (intOf i).toNat)
 case atStart => exact ⟨0,{ data:=#[] },none,0,Nat.zero_le _,rfl,rfl,Nat.zero_le _,Own.nil _ _ _ _ _,Lib.hid rfl,Below.refl _ _⟩
 case round =>
  obtain ⟨p,u,A,cap,hp,rfl,rfl,hu,hown,HD,hbl⟩:=hrel;have hsz:=hbl.size;by_cases hlt : p < s.size
  ·have hz : (s.extract p s.size).size = s.size - p:=size_ext (Nat.le_refl _)
   have hcall:=fun W => firstByte_any (s.extract p s.size) W (by rw [hz]; omega) (by omega)
   rw [rd1_tail (by omega)] at hcall;have HC:=Lib.hid hcall;clear hcall hz;have hpi : (p : Int) < (s.size : Int):=by omega
   have hpl : (p : Int) ≤ (s.size : Int):=by omega
   have hp0 : (0 : Int) ≤ (p : Int):=by omega
   by_cases h0 : (rd1 s p).2 = 0
   ·have HQ:=Lib.hid (un_none (HD.out.trans (unG_bad hlt h0 _)))
    rw [h0] at HC;clear h0
    go_wp2_with fail
    refine (HC.out wr (HT.out.below hbl (Nat.le_refl _))).mono ?_;rintro e w1 ⟨rfl,b1⟩;have k1:=hbl.trans (b1.mono hsz);have z1:=k1.size;have own1:=Own.below hown b1
    go_wp2_with fail
    go_ret2;exact ⟨by rw [HQ.out.1,HQ.out.2]; rfl,k1⟩
   ·have hrd:=rd1_of h0
    have hc0:=hrd.1.1;have hc1:=hrd.1.2;have hl:=hrd.2.1;clear hrd;have hn0 : (((rd1 s p).2 : Int) == 0) = false:=beq_eq_false_iff_ne.2 (by omega);by_cases h80 : u.size = 80
    ·have HQ:=Lib.hid (un_none (HD.out.trans (unG_full hlt h80 _)))
     have h8 : ((u.size : Int) == 80) = true:=beq_iff_eq.2 (by omega);have HU:=Lib.hid h80;clear h80 h0
     go_wp2_with fail
     refine (HC.out wr (HT.out.below hbl (Nat.le_refl _))).mono ?_;rintro e w1 ⟨rfl,b1⟩;have k1:=hbl.trans (b1.mono hsz);have z1:=k1.size;have own1:=Own.below hown b1
     go_wp2_with fail
     go_ret2;exact ⟨by rw [HQ.out.1,HQ.out.2]; rfl,k1⟩
    ·have h8 : ((u.size : Int) == 80) = false:=beq_eq_false_iff_ne.2 (by omega)
     have HN:=Lib.hid (HD.out.trans (unG_step hlt h0 (by omega)));have hus : u.size < 80:=by omega
     have hle6:=rd1_le s p;have hl1 : 1 ≤ (rd1 s p).2:=by omega
     clear h80 h0;generalize hcq : (rd1 s p).1 = c at *
     generalize hlq : (rd1 s p).2 = l at *
     clear hcq hlq
     go_wp2_with fail
     refine (HC.out wr (HT.out.below hbl (Nat.le_refl _))).mono ?_;rintro e w1 ⟨rfl,b1⟩;have k1:=hbl.trans (b1.mono hsz);have z1:=k1.size;have own1:=Own.below hown b1
     go_wp2_with (at_builtin; refine wpList_app rfl (.tmp 26) (.tmp 28) _ rfl w.heap.size 5 (.int .u8 0) 1 1 Tryz.underlying40 info_u8x rfl (by omega) A (some ⟨w1.heap.size,0,none⟩) u.size cap 1 1 (w1.heap.size + 1) (bC u) (fun _ => .int .u8 c) rfl rfl (Own.below own1 ((Below.refl _ _).alloc (Nat.le_refl _) _)) (rd_one _ _ _) (fun _ _ => rfl) (by simp only [maxLen]; omega) (by omega) (by first | omega | (simp; done) | (simp; omega)) ?_; intro A2 cap2 w2 own2 hg2)
     go_roundw
     case rel => exact ⟨p + l,u ++ one8 c,A2,cap2,by omega,by go_num,by rw [ByteArray.size_append]; rfl,by rw [ByteArray.size_append,one8_size]; omega,by rw [ByteArray.size_append]; exact Own.congr own2 (fun j hj => bC_snoc (by omega) (by omega) (by rw [one8_size] at hj; omega)),Lib.hid (by rw [ByteArray.size_append]; exact HN.out),k1.trans (((Below.refl _ _).alloc z1 _).trans (grown_below hg2 (fun b hb => (Own.lt own1 hb).1) (by first | omega | (simp; done) | (simp; omega))))⟩
     case measure => first | (simp [intOf]; done) | (simp [intOf]; omega)
  ·obtain rfl : p = s.size:=by omega
   have HQ:=Lib.hid (un_some (HD.out.trans (unG_done _ _)));rcases hown.shape with ⟨rfl,hz,rfl⟩ | ⟨b,rfl,hb,hbl2,hcp,hmx⟩
   ·have hue : u = { data:=#[] }:=by
       apply ba_bb
       ·rw [hz]; rfl
       ·intro k hk; omega
    subst hue;have hcv:=convN wr
    go_wp2_with fail
    go_ret2;exact ⟨by rw [HQ.out.1,HQ.out.2]; rfl,hbl⟩
   ·have hcv:=convB wr b cap u (fun j hj => hown.cell rfl (j:=j) (by omega))
    go_wp2_with fail
    go_ret2;exact ⟨by rw [HQ.out.1,HQ.out.2]; rfl,hbl⟩
end Go.Proofs.YtfnmlffpnmmcdaaGreatDoor
namespace Go.Proofs.YtfnmlffpnmmcdaaGreatDoor
set_option maxRecDepth 100000
open Go.RowKit
set_option maxHeartbeats 400000 in
theorem implTextValid_any (s : ByteArray) (w : World) (hs : s.size ≤ maxLen) : Calls Tryz.prog 140 #[.string s] w fun e w' => e = .returned (.bool (textB s)) ∧ w = w':=by
 unfold maxLen at hs;have hbb:=bb_eq s;by_cases h1 : 80 < s.size
 ·have HR:=Lib.hid (textB_long h1)
  have hd1 : decide (80 < (s.size : Int)) = true:=decide_eq_true (by omega);go_enter Tryz.func140,Tryz.ntmps140
  go_wp2_with fail
  go_ret;exact ⟨ret_bool HR.out.symm,rfl⟩
 ·have hd1 : decide (80 < (s.size : Int)) = false:=decide_eq_false (by omega)
  go_enter Tryz.func140,Tryz.ntmps140
  go_wp2_with fail
  go_loop [3] (fun i => ∃ k : Nat,k ≤ s.size ∧ Hid (tokTo s k) ∧ i = .int .i64 k) (fun i => s.size - (intOf i).toNat)
  case atStart => exact ⟨0,Nat.zero_le _,Lib.hid tokTo_zero,rfl⟩
  case round =>
   obtain ⟨k,hk,hok,rfl⟩:=hrel;by_cases hlt : k < s.size
   ·by_cases h3 : bb s k < 32
    ·have d3 : decide (bb s k < 32) = true:=decide_eq_true h3
     have HQ:=Lib.hid (textB_bad hlt (by omega))
     go_wp2_with fail
     go_ret;exact ⟨ret_bool HQ.out.symm,rfl⟩
    ·have d3 : decide (bb s k < 32) = false:=decide_eq_false h3
     by_cases h4 : 126 < bb s k
     ·have d4 : decide (126 < bb s k) = true:=decide_eq_true h4
      have HQ:=Lib.hid (textB_bad hlt (by omega))
      go_wp2_with fail
      go_ret;exact ⟨ret_bool HQ.out.symm,rfl⟩
     ·have d4 : decide (126 < bb s k) = false:=decide_eq_false h4
      have HN:=Lib.hid (tokTo_succ hok.out (by omega))
      go_wp2_with fail
      go_round
      case rel => exact ⟨k + 1,by omega,HN,by go_num⟩
      case measure => simp [intOf]; omega
   ·obtain rfl : k = s.size:=by omega
    go_wp2_with fail
    go_ret;exact ⟨ret_bool (textB_true ⟨by omega,hok.out⟩).symm,rfl⟩
set_option maxHeartbeats 400000 in
theorem specTextValid_any (s : ByteArray) (w : World) (hs : s.size ≤ maxLen) : Calls Tryz.prog 124 #[.string s] w fun e w' => e = .returned (.bool (textB s)) ∧ w = w':=by
 unfold maxLen at hs;have hbb:=bb_eq s;go_enter Tryz.func124,Tryz.ntmps124
 go_wp2_with fail
 go_loop [3] (fun i => ∃ k : Nat,k ≤ s.size ∧ Hid (tokTo s k) ∧ i = .int .i64 k) (fun i => s.size - (intOf i).toNat)
 case atStart => exact ⟨0,Nat.zero_le _,Lib.hid tokTo_zero,rfl⟩
 case round =>
  obtain ⟨k,hk,hok,rfl⟩:=hrel;by_cases hlt : k < s.size
  ·by_cases h3 : bb s k < 32
   ·have d3 : decide (bb s k < 32) = true:=decide_eq_true h3
    have HQ:=Lib.hid (textB_bad hlt (by omega))
    go_wp2_with fail
    go_ret;exact ⟨ret_bool HQ.out.symm,rfl⟩
   ·have d3 : decide (bb s k < 32) = false:=decide_eq_false h3
    by_cases h4 : 126 < bb s k
    ·have d4 : decide (126 < bb s k) = true:=decide_eq_true h4
     have HQ:=Lib.hid (textB_bad hlt (by omega))
     go_wp2_with fail
     go_ret;exact ⟨ret_bool HQ.out.symm,rfl⟩
    ·have d4 : decide (126 < bb s k) = false:=decide_eq_false h4
     have HN:=Lib.hid (tokTo_succ hok.out (by omega))
     go_wp2_with fail
     go_round
     case rel => exact ⟨k + 1,by omega,HN,by go_num⟩
     case measure => simp [intOf]; omega
  ·obtain rfl : k = s.size:=by omega
   go_wp2_with fail
   go_ret;exact ⟨ret_bool (textB_all hok.out),rfl⟩
end Go.Proofs.YtfnmlffpnmmcdaaGreatDoor
namespace Go.Proofs.YtfnmlffpnmmcdaaGreatDoor
set_option maxRecDepth 100000
open Go.RowKit
def esOf (s : ByteArray) : ByteArray:=if textB s = true then escOf s else { data:=#[] }
theorem esOf_yes {s : ByteArray} (h : textB s = true) : esOf s = escOf s:=if_pos h
theorem esOf_no {s : ByteArray} (h : textB s = false) : esOf s = { data:=#[] }:=if_neg (by rw [h]; simp)
theorem esOf_size (s : ByteArray) : (esOf s).size ≤ 480:=by
 unfold esOf
 split
 ·next h => have:=(escTo_size s s.size).2; have:=(Text.of h).1; show (escTo s s.size).size ≤ 480; omega
 ·exact Nat.zero_le _
theorem l3Name_any (c : Int) (w : World) (h0 : 0 ≤ c) (h1 : c ≤ 255) : Calls Tryz.prog 146 #[.int .u8 c] w fun e w' => e = .returned (.string (nm1 c)) ∧ w = w':=by
 by_cases h38 : c = 38
 ·subst h38
  go_enter Tryz.func146,Tryz.ntmps146
  go_wp2
  go_ret;exact ⟨rfl,rfl⟩
 have e38 : (c == 38) = false:=beq_eq_false_iff_ne.2 h38;by_cases h60 : c = 60
 ·subst h60
  go_enter Tryz.func146,Tryz.ntmps146
  go_wp2
  go_ret;exact ⟨rfl,rfl⟩
 have e60 : (c == 60) = false:=beq_eq_false_iff_ne.2 h60;by_cases h62 : c = 62
 ·subst h62
  go_enter Tryz.func146,Tryz.ntmps146
  go_wp2
  go_ret;exact ⟨rfl,rfl⟩
 have e62 : (c == 62) = false:=beq_eq_false_iff_ne.2 h62;by_cases h34 : c = 34
 ·subst h34
  go_enter Tryz.func146,Tryz.ntmps146
  go_wp2
  go_ret;exact ⟨rfl,rfl⟩
 have e34 : (c == 34) = false:=beq_eq_false_iff_ne.2 h34;have HQ:=Lib.hid (nm1_no (c:=c) (by unfold spc; omega));clear h38 h60 h62 h34;go_enter Tryz.func146,Tryz.ntmps146
 go_wp2_with fail
 go_ret;exact ⟨by rw [HQ.out]; rfl,rfl⟩
set_option maxHeartbeats 1600000 in
theorem specEscapeText_any (s : ByteArray) (w : World) (hs : s.size ≤ maxLen) : Calls Tryz.prog 147 #[.string s] w fun e w' => e = .returned (.string (esOf s)) ∧ w = w':=by
 have hbb:=bb_eq s;by_cases hv : textB s = true
 ·have h80:=(Text.of hv).1
  have HV:=Lib.hid (Text.of hv);have HQ:=Lib.hid (esOf_yes hv);go_enter Tryz.func147,Tryz.ntmps147
  go_wp2_with fail
  go_loop [3,4,5] (fun o i _ => ∃ k : Nat,k ≤ s.size ∧ i = .int .i64 k ∧ o = .string (escTo s k)) (fun _ i _ => s.size - (intOf i).toNat)
  case atStart => exact ⟨0,Nat.zero_le _,rfl,rfl⟩
  case round =>
   obtain ⟨k,hk,rfl,rfl⟩:=hrel;have hes:=(escTo_size s k).2;have hbg:=bb_ge s k;by_cases hlt : k < s.size
   ·have hki : (k : Int) < (s.size : Int):=by omega
    have hk0 : (0 : Int) ≤ (k : Int):=by omega
    have hcall:=fun W => l3Name_any (bb s k) W hbg.1 hbg.2
    have HE:=Lib.hid (show escTo s (k + 1) = escTo s k ++ enc1 (bb s k) from rfl);by_cases hsp : spc (bb s k)
    ·have HEE:=Lib.hid (show enc1 (bb s k) = nm1 (bb s k) from if_pos hsp)
     generalize hcc : bb s k = c at *
     rcases hsp with rfl | rfl | rfl | rfl
     ·have HC:=Lib.hid (show ∀ W,Calls Tryz.prog 146 #[.int .u8 38] W fun e w' => e = .returned (.string { data:=#[38,97,109,112,59] }) ∧ W = w' from hcall)
      clear hcall
      go_wp2_with (first | (go_at_call 124; refine (specTextValid_any _ _ (by assumption)).mono ?_; rintro e w' ⟨rfl,rfl⟩) | (go_at_call 146; refine (HC.out _).mono ?_; rintro e w' ⟨rfl,rfl⟩))
      go_round
      case rel => exact ⟨k + 1,by omega,by go_num,by rw [HE.out,HEE.out]; rfl⟩
      case measure => first | (simp [intOf]; done) | (simp [intOf]; omega)
     ·have HC:=Lib.hid (show ∀ W,Calls Tryz.prog 146 #[.int .u8 60] W fun e w' => e = .returned (.string { data:=#[38,108,116,59] }) ∧ W = w' from hcall)
      clear hcall
      go_wp2_with (first | (go_at_call 124; refine (specTextValid_any _ _ (by assumption)).mono ?_; rintro e w' ⟨rfl,rfl⟩) | (go_at_call 146; refine (HC.out _).mono ?_; rintro e w' ⟨rfl,rfl⟩))
      go_round
      case rel => exact ⟨k + 1,by omega,by go_num,by rw [HE.out,HEE.out]; rfl⟩
      case measure => first | (simp [intOf]; done) | (simp [intOf]; omega)
     ·have HC:=Lib.hid (show ∀ W,Calls Tryz.prog 146 #[.int .u8 62] W fun e w' => e = .returned (.string { data:=#[38,103,116,59] }) ∧ W = w' from hcall)
      clear hcall
      go_wp2_with (first | (go_at_call 124; refine (specTextValid_any _ _ (by assumption)).mono ?_; rintro e w' ⟨rfl,rfl⟩) | (go_at_call 146; refine (HC.out _).mono ?_; rintro e w' ⟨rfl,rfl⟩))
      go_round
      case rel => exact ⟨k + 1,by omega,by go_num,by rw [HE.out,HEE.out]; rfl⟩
      case measure => first | (simp [intOf]; done) | (simp [intOf]; omega)
     ·have HC:=Lib.hid (show ∀ W,Calls Tryz.prog 146 #[.int .u8 34] W fun e w' => e = .returned (.string { data:=#[38,113,117,111,116,59] }) ∧ W = w' from hcall)
      clear hcall
      go_wp2_with (first | (go_at_call 124; refine (specTextValid_any _ _ (by assumption)).mono ?_; rintro e w' ⟨rfl,rfl⟩) | (go_at_call 146; refine (HC.out _).mono ?_; rintro e w' ⟨rfl,rfl⟩))
      go_round
      case rel => exact ⟨k + 1,by omega,by go_num,by rw [HE.out,HEE.out]; rfl⟩
      case measure => first | (simp [intOf]; done) | (simp [intOf]; omega)
    ·rw [nm1_no hsp] at hcall
     have HC:=Lib.hid hcall;have HX:=Lib.hid (show s.extract k (k + 1) = enc1 (bb s k) from (ext_byte hlt (by rw [UInt8.toNat_ofNat']; omega)).trans (if_neg hsp).symm);have hx1 : (k : Int) + 1 ≤ (s.size : Int):=by omega
     have hx2 : ((k : Int) + 1).toNat = k + 1:=by omega
     have hx3 : (s.extract k (k + 1)).size = 1:=by rw [size_ext (by omega)]; omega
     clear hcall hsp
     go_wp2_with (first | (go_at_call 124; refine (specTextValid_any _ _ (by assumption)).mono ?_; rintro e w' ⟨rfl,rfl⟩) | (go_at_call 146; refine (HC.out _).mono ?_; rintro e w' ⟨rfl,rfl⟩))
     go_round
     case rel => exact ⟨k + 1,by omega,by go_num,by rw [HE.out,← HX.out]⟩
     case measure => first | (simp [intOf]; done) | (simp [intOf]; omega)
   ·obtain rfl : k = s.size:=by omega
    go_wp2_with fail
    go_ret;exact ⟨ret_st (by rw [HQ.out]; rfl),rfl⟩
 ·have hv' : textB s = false:=by simpa using hv
  have HQ:=Lib.hid (esOf_no hv');clear hv;by_cases hp : 0 < s.size
  ·have k1 : decide ((0 : Int) < (s.size : Int)) = true:=decide_eq_true (by omega)
   have k2 : decide (0 < s.size) = true:=decide_eq_true hp;go_enter Tryz.func147,Tryz.ntmps147
   go_wp2_with fail
   refine wp_loop_rounds 1 ?_;rw [rounds_succ]
   go_wp2_with (go_at_call 124; refine (specTextValid_any _ _ (by assumption)).mono ?_; rintro e w' ⟨rfl,rfl⟩)
   go_ret;exact ⟨ret_st HQ.out.symm,rfl⟩
  ·have k1 : decide ((0 : Int) < (s.size : Int)) = false:=decide_eq_false (by omega)
   have k2 : decide (0 < s.size) = false:=decide_eq_false hp;go_enter Tryz.func147,Tryz.ntmps147
   go_wp2_with fail
   refine wp_loop_rounds 1 ?_;rw [rounds_succ]
   go_wp2_with fail
   go_ret;exact ⟨ret_st HQ.out.symm,rfl⟩
def sd1 (s : ByteArray) (p : Nat) : Int × Nat:=if (rd1 s p).2 = 0 then (bb s p,1) else rd1 s p
def SdP (s : ByteArray) (p : Nat) (u : ByteArray) : Prop:=∀ t,UnR s t → u.size ≤ t.size ∧ p = (escTo t u.size).size ∧ u = t.extract 0 u.size
theorem sdP_zero (s : ByteArray) : SdP s 0 { data:=#[] }:=fun t _ => ⟨Nat.zero_le _,rfl,(ext_zero t).symm⟩
theorem sdP_lt {s t : ByteArray} {p : Nat} {u : ByteArray} (h : SdP s p u) (ht : UnR s t) (hp : p < s.size) : u.size < t.size:=by
 obtain ⟨h1,h2,h3⟩:=h t ht;rcases Nat.lt_or_ge u.size t.size with q | q
 ·exact q
 ·have e : u.size = t.size:=by omega
  rw [e] at h2;have : (escTo t t.size).size = s.size:=by rw [← ht.2]; rfl
  omega
theorem sdP_step {s : ByteArray} {p : Nat} {u : ByteArray} (hp : p < s.size) (h : SdP s p u) : SdP s (p + (sd1 s p).2) (u ++ one8 (sd1 s p).1):=by
 intro t ht;have hlt:=sdP_lt h ht hp;obtain ⟨h1,h2,h3⟩:=h t ht;obtain ⟨p1,p2⟩:=esc_piece ht.2 hlt;rw [← h2] at p1 p2;have hr:=rd1_enc (ht.1.2 _ hlt) p1 p2;have hz:=(enc1_size (bb t u.size)).1;have e : sd1 s p = (bb t u.size,(enc1 (bb t u.size)).size):=by
  unfold sd1; rw [hr]; rw [if_neg (by show (enc1 _).size ≠ 0; omega)]
 rw [e];rw [ByteArray.size_append,one8_size];refine ⟨hlt,?_,?_⟩
 ·rw [escTo,ByteArray.size_append,← h2]
 ·have : t.extract u.size (u.size + 1) = one8 (bb t u.size):=ext_byte hlt (by rw [UInt8.toNat_ofNat']; have:=bb_ge t u.size; omega)
  show u ++ one8 (bb t u.size) = _
  rw [← this,← ext_cat (Nat.zero_le _) (show u.size ≤ u.size + 1 by omega) hlt,← h3]
theorem sdP_end {s : ByteArray} {p : Nat} {u t : ByteArray} (h : SdP s p u) (hp : p ≤ s.size) (he : ¬ (p < s.size ∧ u.size ≤ 80)) (ht : UnR s t) : t = u:=by
 obtain ⟨h1,h2,h3⟩:=h t ht;have h80:=ht.1.1;have hps : p = s.size:=by omega
 have hut : u.size = t.size:=by
  rcases Nat.lt_or_ge u.size t.size with q | q
  ·obtain ⟨p1,p2⟩:=esc_piece ht.2 q
   have:=(enc1_size (bb t u.size)).1;omega
  ·omega
 rw [h3,hut,extract_all]
theorem sd_yes {s u : ByteArray} (h1 : textB u = true) (h2 : esOf u = s) : unOf s = u ∧ unOk s = true:=by
 refine un_some (unD_iff.2 ⟨Text.of h1,?_⟩);rw [← h2,esOf_yes h1]
theorem sd_no {s : ByteArray} {p : Nat} {u : ByteArray} (h : SdP s p u) (hp : p ≤ s.size) (he : ¬ (p < s.size ∧ u.size ≤ 80)) (hn : ¬ (textB u = true ∧ esOf u = s)) : unOf s = { data:=#[] } ∧ unOk s = false:=by
 refine un_none ?_;cases hD : unD s with
 | none => rfl
 | some t =>
  obtain rfl:=sdP_end h hp he (unD_iff.1 hD);have ht:=unD_iff.1 hD;have hb : textB t = true:=textB_true ht.1;exact absurd ⟨hb,by rw [esOf_yes hb]; exact ht.2⟩ hn
theorem nm1_len {c : Int} (h : spc c) : 0 < (nm1 c).size ∧ (nm1 c).size ≤ 6:=by rcases h with rfl | rfl | rfl | rfl <;> decide
theorem nm1_ne {c : Int} (h : spc c) : nm1 c ≠ { data:=#[] }:=fun e => by have:=(nm1_len h).1; rw [e] at this; exact absurd this (by decide)
theorem ne_isEmpty {x : ByteArray} (h : x ≠ { data:=#[] }) : x.toList.isEmpty = false:=by
 cases hx : x.toList with
 | nil => exact absurd (ba_ext (by rw [hx]; simp [ByteArray.toList_eq])) h
 | cons a l => rfl
theorem ba_ne_list {a b : ByteArray} (h : a ≠ b) : (a.toList == b.toList) = false:=beq_eq_false_iff_ne.2 (fun e => h (ba_ext e))
theorem sd1_nm {s : ByteArray} {p : Nat} {c : Int} (hc : spc c) (h : isNm s p c) : sd1 s p = (c,(nm1 c).size):=by
 have e:=rd1_nm hc h;unfold sd1;rw [e];rw [if_neg];rcases hc with rfl | rfl | rfl | rfl <;> decide
theorem sd1_amp {s : ByteArray} {p : Nat} (hb : bb s p = 38) (h : ∀ c,spc c → ¬ isNm s p c) : sd1 s p = (bb s p,1):=by
 unfold sd1;rw [rd1_none hb h]; rfl
theorem sd1_one {s : ByteArray} {p : Nat} (hb : bb s p ≠ 38) : sd1 s p = (bb s p,1):=by
 unfold sd1;by_cases h : bb s p < 32 ∨ 126 < bb s p ∨ bb s p = 60 ∨ bb s p = 62 ∨ bb s p = 34
 ·rw [rd1_bad hb h]; rfl
 ·rw [rd1_one (by unfold spc; omega) (by omega)]; rfl
theorem conv_byte1 (w : World) (c : Int) : (convert 40 9 (.slice (some ⟨w.heap.size,0,none⟩) 1 1)).run Tryz.prog (w.alloc (.cells #[.int .u8 c] 5)) = .ok (.string (one8 c)) (w.alloc (.cells #[.int .u8 c] 5)):=by
 rw [run_convert_bytes_string _ 40 9 5 _ _ _ Tryz.underlying40 Tryz.underlying5 Tryz.underlying9]
 have hl:=run_loadCells_list (P:=Tryz.prog) (w:=w.alloc (.cells #[.int .u8 c] 5)) ⟨w.heap.size,0,none⟩ ([c].map (Value.int .u8)) (fun j v hj => by
  match j,hj with
  | 0,hj =>
   simp only [List.map_cons,List.map_nil,List.getElem?_cons_zero,Option.some.injEq] at hj;subst hj;exact World.cell?_alloc_at _ _ _ _ rfl
  | n + 1,hj => simp at hj)
 exact run_bytesToString _ ⟨w.heap.size,0,none⟩ 1 1 [c] hl
set_option maxHeartbeats 1600000 in
theorem specUnescapeText_any (s : ByteArray) (w : World) (hs : s.size + 5 ≤ maxLen) : Calls Tryz.prog 120 #[.string s] w fun e w' => e = .returned (.tuple #[.string (unOf s),.bool (unOk s)]) ∧ Below w.heap.size w w':=by
 have hsm:=hs;unfold maxLen at hs;have hbb:=bb_eq s;go_enter Tryz.func120,Tryz.ntmps120
 go_wp2_with fail
 go_loopw [4,5,6,7,8] (fun o i _ _ _ wr => ∃ (p : Nat) (u : ByteArray),p ≤ s.size ∧ i = .int .i64 p ∧ o = .string u ∧ u.size ≤ 81 ∧ Hid (SdP s p u) ∧ Below w.heap.size w wr) (fun _ i _ _ _ _ => s.size - (intOf i).toNat)
 case atStart => exact ⟨0,{ data:=#[] },Nat.zero_le _,rfl,rfl,Nat.zero_le _,Lib.hid (sdP_zero s),Below.refl _ _⟩
 case round =>
  obtain ⟨p,u,hp,rfl,rfl,hu,HD,hbl⟩:=hrel;have hsz:=hbl.size;have hp0 : (0 : Int) ≤ (p : Int):=by omega
  have hbg:=bb_ge s p;by_cases hc : p < s.size ∧ u.size ≤ 80
  ·obtain ⟨hlt,h80⟩:=hc
   have hpi : (p : Int) < (s.size : Int):=by omega
   have h8i : (u.size : Int) ≤ 80:=by omega
   have hstep:=sdP_step hlt HD.out;by_cases hb : bb s p = 38
   ·have hbq:=hb
    by_cases hx : ∃ c,spc c ∧ isNm s p c
    ·obtain ⟨c,hsc,hn⟩:=hx
     rw [sd1_nm hsc hn] at hstep;have HS:=Lib.hid hstep;have HN:=Lib.hid (fun d (hd : spc d) (hm : isNm s p d) => isNm_one hd hsc hm hn);have hn1:=hn.1;have hn2:=hn.2;clear hstep hn;have hcc:=conv_byte1 wr c;have hz1 : (one8 c).size ≤ 1:=Nat.le_refl _
     go_wp2_with fail
     go_loopw [5,6,7,8] (fun i f b _ wr1 => ∃ j : Nat,34 + (j : Int) ≤ c ∧ i = .int .i64 p ∧ f = .int .u8 38 ∧ b = .int .i64 (34 + (j : Int)) ∧ wr = wr1) (fun _ _ b _ _ => (63 - intOf b).toNat)
     case atStart => exact ⟨0,by rcases hsc with rfl | rfl | rfl | rfl <;> decide,rfl,by first | rfl | rw [hbq],rfl,rfl⟩
     case round =>
      obtain ⟨j,hj,rfl,rfl,rfl,rfl⟩:=hrel;have hc62 : 34 ≤ c ∧ c ≤ 62:=by rcases hsc with rfl | rfl | rfl | rfl <;> decide
      have hj62 : (34 : Int) + (j : Int) ≤ 62:=by omega
      have hj0 : (0 : Int) ≤ 34 + (j : Int):=by omega
      have hcall:=fun W => l3Name_any (34 + (j : Int)) W hj0 (by omega)
      by_cases hjc : 34 + (j : Int) = c
      ·rw [hjc] at hcall hj62 hj0 ⊢
       have hxs:=nm1_len hsc;have hxe:=nm1_ne hsc;have hxe2:=ne_isEmpty hxe;have hq1 : ((s.extract p (p + (nm1 c).size)).toList == (nm1 c).toList) = true:=by rw [hn2]; simp
       generalize nm1 c = x at *
       obtain ⟨hx0,hx6⟩:=hxs;have HC:=Lib.hid hcall;have hd2 : (p : Int) + (x.size : Int) ≤ (s.size : Int):=by omega
       have hd3 : ((p : Int) + (x.size : Int)).toNat = p + x.size:=by omega
       have hjx:=hjc;clear hcall hjc;have HM:=Lib.hid hn2;clear hn2
       go_wp2_with (go_at_call 146; refine (HC.out _).mono ?_; rintro e w' ⟨rfl,rfl⟩)
       go_roundw
       case rel => exact ⟨p + x.size,u ++ one8 c,by omega,by go_num,rfl,by rw [ByteArray.size_append,one8_size]; omega,HS.out,hbl.alloc hsz _⟩
       case measure => first | (simp [intOf]; done) | (simp [intOf]; omega)
      ·clear hn1 hn2
       by_cases hs4 : spc (34 + (j : Int))
       ·have HX:=Lib.hid (show ¬ (p + (nm1 (34 + (j : Int))).size ≤ s.size ∧ s.extract p (p + (nm1 (34 + (j : Int))).size) = nm1 (34 + (j : Int))) from fun hm => hjc (HN.out _ hs4 hm))
        have hxs : 0 < (nm1 (34 + (j : Int))).size ∧ (nm1 (34 + (j : Int))).size ≤ 6:=nm1_len hs4;have hxe:=nm1_ne hs4;have hxe2:=ne_isEmpty hxe;generalize nm1 (34 + (j : Int)) = x at *
        have HC:=Lib.hid hcall;clear hcall;obtain ⟨hx0,hx6⟩:=hxs;have hd0 : (p : Int) + (x.size : Int) ≤ 9223372036854775807:=by omega
        have hd4 : (0 : Int) ≤ (p : Int) + (x.size : Int):=by omega
        have hd5 : (p : Int) ≤ (p : Int) + (x.size : Int):=by omega
        by_cases hd1 : p + x.size ≤ s.size
        ·have hd2 : (p : Int) + (x.size : Int) ≤ (s.size : Int):=by omega
         have hd3 : ((p : Int) + (x.size : Int)).toNat = p + x.size:=by omega
         have hq : s.extract p (p + x.size) ≠ x:=fun e => HX.out ⟨hd1,e⟩
         have hq1:=ba_ne_list hq
         go_wp2_with (go_at_call 146; refine (HC.out _).mono ?_; rintro e w' ⟨rfl,rfl⟩)
         go_roundw
         case rel => exact ⟨j + 1,by omega,rfl,rfl,by go_num,by first | rfl | trivial⟩
         case measure => first | (simp [intOf]; done) | (simp [intOf]; omega)
        ·have hd2 : decide ((p : Int) + (x.size : Int) ≤ (s.size : Int)) = false:=decide_eq_false (by omega)
         go_wp2_with (go_at_call 146; refine (HC.out _).mono ?_; rintro e w' ⟨rfl,rfl⟩)
         go_roundw
         case rel => exact ⟨j + 1,by omega,rfl,rfl,by go_num,by first | rfl | trivial⟩
         case measure => first | (simp [intOf]; done) | (simp [intOf]; omega)
       ·rw [nm1_no hs4] at hcall
        have HC:=Lib.hid hcall;clear hcall
        go_wp2_with (go_at_call 146; refine (HC.out _).mono ?_; rintro e w' ⟨rfl,rfl⟩)
        go_roundw
        case rel => exact ⟨j + 1,by omega,rfl,rfl,by go_num,by first | rfl | trivial⟩
        case measure => first | (simp [intOf]; done) | (simp [intOf]; omega)
    ·have hno : ∀ c,spc c → ¬ isNm s p c:=fun c hc hn => hx ⟨c,hc,hn⟩
     clear hx;rw [sd1_amp hb hno,hb] at hstep;have HS:=Lib.hid hstep;have HN:=Lib.hid hno;clear hstep hno;have hcc:=conv_byte1 wr 38;have hz1 : (one8 38).size ≤ 1:=Nat.le_refl _
     go_wp2_with fail
     go_loopw [5,6,7,8] (fun i f b _ wr1 => ∃ j : Nat,j ≤ 29 ∧ i = .int .i64 p ∧ f = .int .u8 38 ∧ b = .int .i64 (34 + (j : Int)) ∧ wr = wr1) (fun _ _ b _ _ => (63 - intOf b).toNat)
     case atStart => exact ⟨0,by omega,rfl,by first | rfl | rw [hbq],rfl,rfl⟩
     case round =>
      obtain ⟨j,hj,rfl,rfl,rfl,rfl⟩:=hrel;by_cases h29 : j < 29
      ·have hd9 : (34 : Int) + (j : Int) ≤ 62:=by omega
       have hj0 : (0 : Int) ≤ 34 + (j : Int):=by omega
       have hcall:=fun W => l3Name_any (34 + (j : Int)) W hj0 (by omega)
       by_cases hs4 : spc (34 + (j : Int))
       ·have HX:=Lib.hid (show ¬ (p + (nm1 (34 + (j : Int))).size ≤ s.size ∧ s.extract p (p + (nm1 (34 + (j : Int))).size) = nm1 (34 + (j : Int))) from HN.out _ hs4)
        have hxs : 0 < (nm1 (34 + (j : Int))).size ∧ (nm1 (34 + (j : Int))).size ≤ 6:=nm1_len hs4;have hxe:=nm1_ne hs4;have hxe2:=ne_isEmpty hxe;generalize nm1 (34 + (j : Int)) = x at *
        have HC:=Lib.hid hcall;clear hcall;obtain ⟨hx0,hx6⟩:=hxs;have hd0 : (p : Int) + (x.size : Int) ≤ 9223372036854775807:=by omega
        have hd4 : (0 : Int) ≤ (p : Int) + (x.size : Int):=by omega
        have hd5 : (p : Int) ≤ (p : Int) + (x.size : Int):=by omega
        by_cases hd1 : p + x.size ≤ s.size
        ·have hd2 : (p : Int) + (x.size : Int) ≤ (s.size : Int):=by omega
         have hd3 : ((p : Int) + (x.size : Int)).toNat = p + x.size:=by omega
         have hq : s.extract p (p + x.size) ≠ x:=fun e => HX.out ⟨hd1,e⟩
         have hq1:=ba_ne_list hq
         go_wp2_with (go_at_call 146; refine (HC.out _).mono ?_; rintro e w' ⟨rfl,rfl⟩)
         go_roundw
         case rel => exact ⟨j + 1,by omega,rfl,rfl,by go_num,by first | rfl | trivial⟩
         case measure => first | (simp [intOf]; done) | (simp [intOf]; omega)
        ·have hd2 : decide ((p : Int) + (x.size : Int) ≤ (s.size : Int)) = false:=decide_eq_false (by omega)
         go_wp2_with (go_at_call 146; refine (HC.out _).mono ?_; rintro e w' ⟨rfl,rfl⟩)
         go_roundw
         case rel => exact ⟨j + 1,by omega,rfl,rfl,by go_num,by first | rfl | trivial⟩
         case measure => first | (simp [intOf]; done) | (simp [intOf]; omega)
       ·rw [nm1_no hs4] at hcall
        have HC:=Lib.hid hcall;clear hcall
        go_wp2_with (go_at_call 146; refine (HC.out _).mono ?_; rintro e w' ⟨rfl,rfl⟩)
        go_roundw
        case rel => exact ⟨j + 1,by omega,rfl,rfl,by go_num,by first | rfl | trivial⟩
        case measure => first | (simp [intOf]; done) | (simp [intOf]; omega)
      ·have hd9 : decide ((34 : Int) + (j : Int) ≤ 62) = false:=decide_eq_false (by omega)
       go_wp2_with fail
       go_roundw
       case rel => exact ⟨p + 1,u ++ one8 38,by omega,by go_num,rfl,by rw [ByteArray.size_append,one8_size]; omega,HS.out,hbl.alloc hsz _⟩
       case measure => first | (simp [intOf]; done) | (simp [intOf]; omega)
   ·have hb38 : (bb s p == 38) = false:=beq_eq_false_iff_ne.2 hb
    rw [sd1_one hb] at hstep;have HS:=Lib.hid hstep;clear hstep;have hcc:=conv_byte1 wr (bb s p);have hz1 : (one8 (bb s p)).size ≤ 1:=Nat.le_refl _
    go_wp2_with fail
    go_roundw
    case rel => exact ⟨p + 1,u ++ one8 (bb s p),by omega,by go_num,rfl,by rw [ByteArray.size_append,one8_size]; omega,HS.out,hbl.alloc hsz _⟩
    case measure => first | (simp [intOf]; done) | (simp [intOf]; omega)
  ·have HYN:=Lib.hid (fun hn => sd_no HD.out hp hc hn)
   have HYY:=Lib.hid (fun h1 h2 => sd_yes (s:=s) (u:=u) h1 h2);have hum : u.size ≤ maxLen:=by unfold maxLen; omega
   have hze:=esOf_size u;by_cases hlt : p < s.size
   ·have hpi : (p : Int) < (s.size : Int):=by omega
    have h8i : decide ((u.size : Int) ≤ 80) = false:=decide_eq_false (by omega);clear hc;by_cases hv : textB u = true
    ·by_cases he : esOf u = s
     ·have HQ:=Lib.hid (HYY.out hv he)
      have he1 : ((esOf u).toList == s.toList) = true:=by rw [he]; simp
      have he2 : ((esOf u).toList != s.toList) = false:=by rw [he]; simp
      have HE:=Lib.hid he;clear he
      go_wp2_with (first | (go_at_call 124; refine (specTextValid_any _ _ (by assumption)).mono ?_; rintro e w' ⟨rfl,rfl⟩) | (go_at_call 147; refine (specEscapeText_any _ _ (by assumption)).mono ?_; rintro e w' ⟨rfl,rfl⟩))
      go_ret2;exact ⟨by rw [HQ.out.1,HQ.out.2]; rfl,hbl⟩
     ·have HQ:=Lib.hid (HYN.out (fun h => he h.2))
      have he1 : ((esOf u).toList == s.toList) = false:=ba_ne_list he;have he2 : ((esOf u).toList != s.toList) = true:=by unfold bne; rw [he1]; rfl
      clear he
      go_wp2_with (first | (go_at_call 124; refine (specTextValid_any _ _ (by assumption)).mono ?_; rintro e w' ⟨rfl,rfl⟩) | (go_at_call 147; refine (specEscapeText_any _ _ (by assumption)).mono ?_; rintro e w' ⟨rfl,rfl⟩))
      go_ret2;exact ⟨by rw [HQ.out.1,HQ.out.2]; rfl,hbl⟩
    ·have hv' : textB u = false:=by simpa using hv
     have HQ:=Lib.hid (HYN.out (fun h => hv h.1));clear hv
     go_wp2_with (first | (go_at_call 124; refine (specTextValid_any _ _ (by assumption)).mono ?_; rintro e w' ⟨rfl,rfl⟩) | (go_at_call 147; refine (specEscapeText_any _ _ (by assumption)).mono ?_; rintro e w' ⟨rfl,rfl⟩))
     go_ret2;exact ⟨by rw [HQ.out.1,HQ.out.2]; rfl,hbl⟩
   ·have hpi : decide ((p : Int) < (s.size : Int)) = false:=decide_eq_false (by omega)
    clear hc;by_cases hv : textB u = true
    ·by_cases he : esOf u = s
     ·have HQ:=Lib.hid (HYY.out hv he)
      have he1 : ((esOf u).toList == s.toList) = true:=by rw [he]; simp
      have he2 : ((esOf u).toList != s.toList) = false:=by rw [he]; simp
      have HE:=Lib.hid he;clear he
      go_wp2_with (first | (go_at_call 124; refine (specTextValid_any _ _ (by assumption)).mono ?_; rintro e w' ⟨rfl,rfl⟩) | (go_at_call 147; refine (specEscapeText_any _ _ (by assumption)).mono ?_; rintro e w' ⟨rfl,rfl⟩))
      go_ret2;exact ⟨by rw [HQ.out.1,HQ.out.2]; rfl,hbl⟩
     ·have HQ:=Lib.hid (HYN.out (fun h => he h.2))
      have he1 : ((esOf u).toList == s.toList) = false:=ba_ne_list he;have he2 : ((esOf u).toList != s.toList) = true:=by unfold bne; rw [he1]; rfl
      clear he
      go_wp2_with (first | (go_at_call 124; refine (specTextValid_any _ _ (by assumption)).mono ?_; rintro e w' ⟨rfl,rfl⟩) | (go_at_call 147; refine (specEscapeText_any _ _ (by assumption)).mono ?_; rintro e w' ⟨rfl,rfl⟩))
      go_ret2;exact ⟨by rw [HQ.out.1,HQ.out.2]; rfl,hbl⟩
    ·have hv' : textB u = false:=by simpa using hv
     have HQ:=Lib.hid (HYN.out (fun h => hv h.1));clear hv
     go_wp2_with (first | (go_at_call 124; refine (specTextValid_any _ _ (by assumption)).mono ?_; rintro e w' ⟨rfl,rfl⟩) | (go_at_call 147; refine (specEscapeText_any _ _ (by assumption)).mono ?_; rintro e w' ⟨rfl,rfl⟩))
     go_ret2;exact ⟨by rw [HQ.out.1,HQ.out.2]; rfl,hbl⟩
def wokS (s : ByteArray) (k : Nat) : Prop:=∀ j,j < k → (97 ≤ bb s j ∧ bb s j ≤ 122) ∨ (0 < j ∧ 48 ≤ bb s j ∧ bb s j ≤ 57)
theorem wokS_succ {s : ByteArray} {k : Nat} (h : wokS s k) (h1 : (97 ≤ bb s k ∧ bb s k ≤ 122) ∨ (0 < k ∧ 48 ≤ bb s k ∧ bb s k ≤ 57)) : wokS s (k + 1):=by
 intro j hj;rcases Nat.lt_succ_iff_lt_or_eq.1 hj with h' | rfl
 ·exact h j h'
 ·exact h1
theorem wokS_all {s : ByteArray} (h : wokS s s.size) : inB (s.size : Int) 1 8 = wordB s:=by
 by_cases h1 : 1 ≤ s.size
 ·by_cases h2 : s.size ≤ 8
  ·rw [inB_true (by omega) (by omega),wordB_true]
   have h0:=h 0 (by omega)
   exact ⟨h1,h2,by omega,by omega,fun j hj => by
    rcases h j hj with h3 | h3
    ·exact .inr h3
    ·exact .inl h3.2⟩
  ·rw [inB_false (by omega),wordB_size (by omega)]
 ·rw [inB_false (by omega),wordB_size (by omega)]
theorem wokS_bad {s : ByteArray} {k : Nat} (hk : k < s.size) (h : ¬ ((97 ≤ bb s k ∧ bb s k ≤ 122) ∨ (0 < k ∧ 48 ≤ bb s k ∧ bb s k ≤ 57))) : wordB s = false:=decide_eq_false fun hw => by
 have h1:=hw.2.2.2.2 k hk;unfold wok at h1;have h2:=hw.2.2.1;have h3:=hw.2.2.2.1;rcases Nat.eq_zero_or_pos k with h0 | h0
 ·rw [h0] at h; omega
 ·omega
set_option maxHeartbeats 800000 in
theorem specWordValid_any (s : ByteArray) (w : World) (hs : s.size ≤ maxLen) : Calls Tryz.prog 119 #[.string s] w fun e w' => e = .returned (.bool (wordB s)) ∧ w = w':=by
 unfold maxLen at hs;have hbb:=bb_eq s;go_enter Tryz.func119,Tryz.ntmps119
 go_wp2_with fail
 go_loop [3] (fun i => ∃ k : Nat,k ≤ s.size ∧ Hid (wokS s k) ∧ i = .int .i64 k) (fun i => s.size - (intOf i).toNat)
 case atStart => exact ⟨0,Nat.zero_le _,Lib.hid (fun j hj => absurd hj (by omega)),rfl⟩
 case round =>
  obtain ⟨k,hk,hok,rfl⟩:=hrel;by_cases hlt : k < s.size
  ·have hr:=bb_rng s k
   by_cases ha : 97 ≤ bb s k
   ·have d1 : decide (97 ≤ bb s k) = true:=decide_eq_true (by omega)
    by_cases hz : bb s k ≤ 122
    ·have d2 : decide (bb s k ≤ 122) = true:=decide_eq_true (by omega)
     have HN:=Lib.hid (wokS_succ hok.out (by omega))
     go_wp2_with fail
     go_round
     case rel => exact ⟨k + 1,by omega,HN,by go_num⟩
     case measure => simp [intOf]; omega
    ·have d2 : decide (bb s k ≤ 122) = false:=decide_eq_false (by omega)
     by_cases h0 : k = 0
     ·have e0 : ((k : Int) == 0) = true:=by simp; omega
      have HQ:=Lib.hid (wokS_bad hlt (by omega));clear h0
      go_wp2_with fail
      go_ret;exact ⟨ret_bool HQ.out.symm,rfl⟩
     ·have e0 : ((k : Int) == 0) = false:=by simp; omega
      have d3 : decide (bb s k < 48) = false:=decide_eq_false (by omega);have d4 : decide (57 < bb s k) = true:=decide_eq_true (by omega);have HQ:=Lib.hid (wokS_bad hlt (by omega))
      go_wp2_with fail
      go_ret;exact ⟨ret_bool HQ.out.symm,rfl⟩
   ·have d1 : decide (97 ≤ bb s k) = false:=decide_eq_false (by omega)
    by_cases h0 : k = 0
    ·have e0 : ((k : Int) == 0) = true:=by simp; omega
     have HQ:=Lib.hid (wokS_bad hlt (by omega));clear h0
     go_wp2_with fail
     go_ret;exact ⟨ret_bool HQ.out.symm,rfl⟩
    ·have e0 : ((k : Int) == 0) = false:=by simp; omega
     by_cases h3 : bb s k < 48
     ·have d3 : decide (bb s k < 48) = true:=decide_eq_true (by omega)
      have HQ:=Lib.hid (wokS_bad hlt (by omega))
      go_wp2_with fail
      go_ret;exact ⟨ret_bool HQ.out.symm,rfl⟩
     ·have d3 : decide (bb s k < 48) = false:=decide_eq_false (by omega)
      by_cases h4 : 57 < bb s k
      ·have d4 : decide (57 < bb s k) = true:=decide_eq_true (by omega)
       have HQ:=Lib.hid (wokS_bad hlt (by omega))
       go_wp2_with fail
       go_ret;exact ⟨ret_bool HQ.out.symm,rfl⟩
      ·have d4 : decide (57 < bb s k) = false:=decide_eq_false (by omega)
       have HN:=Lib.hid (wokS_succ hok.out (by omega))
       go_wp2_with fail
       go_round
       case rel => exact ⟨k + 1,by omega,HN,by go_num⟩
       case measure => simp [intOf]; omega
  ·obtain rfl : k = s.size:=by omega
   go_wp2_with (go_at_call 81; refine (l1In_any _ _ _ _).mono ?_; rintro e w' ⟨rfl,rfl⟩)
   go_ret;exact ⟨ret_bool (wokS_all hok.out),rfl⟩
end Go.Proofs.YtfnmlffpnmmcdaaGreatDoor
