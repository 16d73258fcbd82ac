/- Parts of the proof, merged: ElPlain Tail ElA CutA ElB ElC ElD ElE DateA DateC DateD DateB DateE DateF DayPlain. -/
import Derived.Test.YtfnmlffpnmmcdaaGreatDoorMq1
import Derived.Deep.QuietTactic
import Derived.BigQuiet
namespace Go.Proofs.YtfnmlffpnmmcdaaGreatDoor
set_option maxRecDepth 100000
open Go.RowKit
theorem info_Element : (Tryz.prog.info? 107).map (fun i => (i.zero,i.size,i.bytes)) = some (some (.agg #[.string ByteArray.empty,.string ByteArray.empty]),2,32):=by kernel_rfl
abbrev ElElement : Type:=ByteArray × ByteArray
def encElement (p : ElElement) : Nat → Value
 | 0 => Value.string p.1
 | _ => Value.string p.2
theorem encElement_one (p : ElElement) (i : Nat) : (encElement p i).oneCell' = true:=by unfold encElement; split <;> rfl
def eB (e : ElElement) : Bool:=wordB e.1 && textB e.2
def evB (xs : List ElElement) : Bool:=vdB (fun xs k => eB (gt xs k) = true) 8 xs
theorem evB_true {xs : List ElElement} (h : xs.length ≤ 8) (hv : ∀ e,e ∈ xs → eB e = true) : evB xs = true:=vdB_true ⟨h,fun _k hk => hv _ (gt_mem hk)⟩
theorem evB_at {xs : List ElElement} (h : evB xs = true) : xs.length ≤ 8 ∧ ∀ k,k < xs.length → eB (gt xs k) = true:=⟨(Vd.of h).1,fun k hk => (Vd.of h).2 k hk⟩
theorem evB_no {xs : List ElElement} {e : ElElement} (h : e ∈ xs) (hv : eB e = false) : evB xs = false:=by
 cases q : evB xs
 ·rfl
 ·obtain ⟨k,hk,e1⟩:=mem_gt h
  have:=(evB_at q).2 k hk;rw [e1,hv] at this; cases this
def cls (x : ByteArray) : ByteArray:=({ data:=#[60,47] } ++ x) ++ { data:=#[62] }
theorem cls_size (x : ByteArray) : (cls x).size = x.size + 3:=by
 unfold cls;rw [ByteArray.size_append,ByteArray.size_append]
 show 2 + x.size + 1 = _
 omega
theorem cls_ne {x : ByteArray} (h : ∀ j,j < x.size → bb x j ≠ 62) {j : Nat} (hj : j < x.size + 2) : bb (cls x) j ≠ 62:=by
 have h2 : ({ data:=#[60,47] } : ByteArray).size = 2:=rfl;unfold cls;rw [bb_left (by rw [ByteArray.size_append,h2]; omega),bb_app,h2]
 split
 ·next hlt =>
  rcases (by omega : j = 0 ∨ j = 1) with rfl | rfl <;> decide
 ·exact h _ (by omega)
theorem cls_last (x : ByteArray) : bb (cls x) (x.size + 2) = 62:=by
 have h2 : ({ data:=#[60,47] } ++ x : ByteArray).size = x.size + 2:=by rw [ByteArray.size_append]; show 2 + x.size = _; omega
 unfold cls;rw [bb_app,h2,if_neg (by omega),Nat.sub_self];rfl
theorem fb_cls {s x : ByteArray} {e : Nat} (hx : ∀ j,j < x.size → bb x j ≠ 62) (h1 : e + (cls x).size ≤ s.size) (h2 : s.extract e (e + (cls x).size) = cls x) : fb s 62 e = e + x.size + 2:=by
 have hz:=cls_size x;refine fb_eq (by omega) (by omega) (fun j hj1 hj2 => ?_) (fun _ => ?_)
 ·obtain ⟨d,rfl⟩ : ∃ d,j = e + d:=⟨j - e,by omega⟩
  rw [ext_bb h1 h2 (by omega)];exact cls_ne hx (by omega)
 ·rw [Nat.add_assoc,ext_bb h1 h2 (by omega)]
  exact cls_last x
def eN (s : ByteArray) (a : Nat) : Nat:=fb s 62 (a + 1)
def eT (s : ByteArray) (a : Nat) : Nat:=fb s 60 (eN s a)
def eL (s : ByteArray) (a : Nat) : Nat:=fb s 62 (eT s a)
def eNm (s : ByteArray) (a : Nat) : ByteArray:=s.extract (a + 1) (eN s a)
def eTx (s : ByteArray) (a : Nat) : ByteArray:=s.extract (eN s a + 1) (eT s a)
def eOk (s : ByteArray) (a : Nat) : Prop:=bb s a = 60 ∧ eL s a < s.size ∧ unOk (eTx s a) = true ∧ s.extract (eT s a) (eL s a + 1) = cls (eNm s a)
instance (s : ByteArray) (a : Nat) : Decidable (eOk s a):=inferInstanceAs (Decidable (_ ∧ _ ∧ _ ∧ _))
def eAt (s : ByteArray) (a : Nat) : ElElement:=(eNm s a,unOf (eTx s a))
theorem e_order {s : ByteArray} {a : Nat} (ha : a < s.size) : a + 1 ≤ eN s a ∧ eN s a ≤ eT s a ∧ eT s a ≤ eL s a ∧ eL s a ≤ s.size:=by
 have h1 : eN s a ≤ s.size:=fb_le (by omega);have h2 : eT s a ≤ s.size:=fb_le h1;exact ⟨fb_ge (by omega),fb_ge h1,fb_ge h2,fb_le h2⟩
theorem eNm_no {s : ByteArray} {a : Nat} (ha : a < s.size) : ∀ j,j < (eNm s a).size → bb (eNm s a) j ≠ 62:=by
 intro j hj;have h1 : eN s a ≤ s.size:=fb_le (by omega);unfold eNm at hj ⊢;rw [size_ext h1] at hj;rw [bb_extract h1 (by omega)];have h2 : a + 1 + j < eN s a:=by omega
 unfold eN at h2;exact fb_ne (by omega) (by omega) h2
theorem eN_at {s : ByteArray} {a : Nat} (ha : a < s.size) (h : eN s a < s.size) : bb s (eN s a) = 62:=fb_at (by omega) h
theorem eT_gt {s : ByteArray} {a : Nat} (ha : a < s.size) (h : eN s a < s.size) : eN s a + 1 ≤ eT s a:=by
 unfold eT;rw [fb_step h (by rw [eN_at ha h]; decide)];exact fb_ge (by omega)
theorem eOk_pre {s : ByteArray} {a : Nat} (ha : a < s.size) : eOk s a ↔ bb s a = 60 ∧ eN s a < s.size ∧ eT s a < s.size ∧ unOk (eTx s a) = true ∧ eT s a + (cls (eNm s a)).size ≤ s.size ∧ s.extract (eT s a) (eT s a + (cls (eNm s a)).size) = cls (eNm s a):=by
 obtain ⟨o1,o2,o3,o4⟩:=e_order ha;constructor
 ·rintro ⟨h1,h2,h3,h4⟩
  have hz : (s.extract (eT s a) (eL s a + 1)).size = (cls (eNm s a)).size:=by rw [h4]
  rw [size_ext (by omega)] at hz;have e : eT s a + (cls (eNm s a)).size = eL s a + 1:=by omega
  exact ⟨h1,by omega,by omega,h3,by omega,by rw [e]; exact h4⟩
 ·rintro ⟨h1,h2,h3,h4,h5,h6⟩
  have hl : eL s a = eT s a + (eNm s a).size + 2:=fb_cls (eNm_no ha) h5 h6;have hz:=cls_size (eNm s a);have e : eL s a + 1 = eT s a + (cls (eNm s a)).size:=by omega
  exact ⟨h1,by omega,h4,by rw [e]; exact h6⟩
theorem eL_pre {s : ByteArray} {a : Nat} (ha : a < s.size) (h : eOk s a) : eL s a + 1 = eT s a + (cls (eNm s a)).size:=by
 obtain ⟨o1,o2,o3,o4⟩:=e_order ha;obtain ⟨h1,h2,h3,h4⟩:=h;have hz : (s.extract (eT s a) (eL s a + 1)).size = (cls (eNm s a)).size:=by rw [h4]
 rw [size_ext (by omega)] at hz;omega
theorem fb_shift {s : ByteArray} {c : Int} {a k : Nat} (h : a ≤ s.size) (hk : k ≤ s.size - a) : fb (s.extract a s.size) c k + a = fb s c (a + k):=by
 have hz : (s.extract a s.size).size = s.size - a:=size_ext (Nat.le_refl _);have e : (s.extract a s.size).extract k (s.extract a s.size).size = s.extract (a + k) s.size:=by rw [hz,ext_ext (Nat.le_refl _) (Nat.le_refl _)]; congr 1; omega
 have h1:=fb_tail (s:=s.extract a s.size) (c:=c) (a:=k) (by omega);have h2:=fb_tail (s:=s) (c:=c) (a:=a + k) (by omega);rw [e] at h1;omega
theorem eN_tail {s : ByteArray} {a : Nat} (h : a < s.size) : eN (s.extract a s.size) 0 + a = eN s a:=by
 unfold eN; rw [fb_shift (by omega) (by omega),Nat.zero_add]
theorem eT_tail {s : ByteArray} {a : Nat} (h : a < s.size) : eT (s.extract a s.size) 0 + a = eT s a:=by
 have h1:=eN_tail h;have h2:=(e_order h).2.1;have h3 : eN s a ≤ s.size:=fb_le (by omega);unfold eT; rw [fb_shift (by omega) (by omega)]; congr 1; omega
theorem eL_tail {s : ByteArray} {a : Nat} (h : a < s.size) : eL (s.extract a s.size) 0 + a = eL s a:=by
 have h1:=eT_tail h;have h3 : eT s a ≤ s.size:=Nat.le_trans (e_order h).2.2.1 (e_order h).2.2.2;unfold eL; rw [fb_shift (by omega) (by omega)]; congr 1; omega
theorem eNm_tail {s : ByteArray} {a : Nat} (h : a < s.size) : eNm (s.extract a s.size) 0 = eNm s a:=by
 have h1:=eN_tail h;have h3 : eN s a ≤ s.size:=fb_le (by omega);unfold eNm;rw [ext_ext (Nat.le_refl _) (by omega)]
 congr 1; omega
theorem eTx_tail {s : ByteArray} {a : Nat} (h : a < s.size) : eTx (s.extract a s.size) 0 = eTx s a:=by
 have h1:=eN_tail h;have h2:=eT_tail h;have h3 : eT s a ≤ s.size:=Nat.le_trans (e_order h).2.2.1 (e_order h).2.2.2;unfold eTx;rw [ext_ext (Nat.le_refl _) (by omega)]
 congr 1 <;> omega
theorem eAt_tail {s : ByteArray} {a : Nat} (h : a < s.size) : eAt (s.extract a s.size) 0 = eAt s a:=by
 unfold eAt; rw [eNm_tail h,eTx_tail h]
theorem eOk_tail {s : ByteArray} {a : Nat} (h : a < s.size) : eOk (s.extract a s.size) 0 ↔ eOk s a:=by
 have h1:=eT_tail h;have h2:=eL_tail h;have hz : (s.extract a s.size).size = s.size - a:=size_ext (Nat.le_refl _);have ho:=e_order h;unfold eOk;rw [bb_tail (by omega),Nat.add_zero,eTx_tail h,eNm_tail h,hz];have hl : eL (s.extract a s.size) 0 < s.size - a ↔ eL s a < s.size:=by omega
 rw [hl];by_cases hlt : eL s a < s.size
 ·have e1 : a + eT (s.extract a s.size) 0 = eT s a:=by omega
  have e2 : a + (eL (s.extract a s.size) 0 + 1) = eL s a + 1:=by omega
  rw [ext_ext (Nat.le_refl _) (by omega),e1,e2]
 ·simp [hlt]
def elG (s : ByteArray) : Nat → Nat → Option (List ElElement)
 | 0,a => if s.size ≤ a then some [] else none
 | n + 1,a => if s.size ≤ a then some [] else if eOk s a then (elG s n (eL s a + 1)).map (eAt s a :: ·) else none
def elD (s : ByteArray) : Option (List ElElement):=(elG s 8 0).bind (fun l => if evB l = true then some l else none)
def elOf (s : ByteArray) : List ElElement:=(elD s).getD []
def elOk (s : ByteArray) : Bool:=(elD s).isSome
theorem el_some {s : ByteArray} {l : List ElElement} (h : elD s = some l) : elOf s = l ∧ elOk s = true:=by unfold elOf elOk; rw [h]; exact ⟨rfl,rfl⟩
theorem el_none {s : ByteArray} (h : elD s = none) : elOf s = [] ∧ elOk s = false:=by unfold elOf elOk; rw [h]; exact ⟨rfl,rfl⟩
def ElP (s : ByteArray) (a : Nat) (out : List ElElement) : Prop:=elG s 8 0 = (elG s (8 - out.length) a).map (out ++ ·)
theorem elP_zero (s : ByteArray) : ElP s 0 []:=by
 unfold ElP;cases h : elG s 8 0 <;> simp
theorem elG_yes {s : ByteArray} {a : Nat} {n : Nat} (h : a < s.size) (hok : eOk s a) : elG s (n + 1) a = (elG s n (eL s a + 1)).map (eAt s a :: ·):=by
 rw [elG,if_neg (by omega),if_pos hok]
theorem elG_bad {s : ByteArray} {a : Nat} {n : Nat} (h : a < s.size) (hok : ¬ eOk s a) : elG s n a = none:=by
 cases n with
 | zero => rw [elG,if_neg (by omega)]
 | succ n => rw [elG,if_neg (by omega),if_neg hok]
theorem elG_done {s : ByteArray} (n : Nat) : elG s n s.size = some []:=by cases n <;> rw [elG,if_pos (Nat.le_refl _)]
theorem elP_step {s : ByteArray} {a : Nat} {out : List ElElement} (h : ElP s a out) (ha : a < s.size) (hl : out.length < 8) (hok : eOk s a) : ElP s (eL s a + 1) (out ++ [eAt s a]):=by
 unfold ElP at h ⊢;obtain ⟨n,hn⟩ : ∃ n,8 - out.length = n + 1:=⟨8 - out.length - 1,by omega⟩;rw [h,hn,elG_yes ha hok,List.length_append,List.length_singleton,show 8 - (out.length + 1) = n by omega,Option.map_map]
 congr 1
 funext l
 simp
theorem elP_bad {s : ByteArray} {a : Nat} {out : List ElElement} (h : ElP s a out) (ha : a < s.size) (hb : ¬ eOk s a ∨ out.length = 8) : elD s = none:=by
 unfold ElP at h;unfold elD;rw [h];rcases hb with hb | hb
 ·rw [elG_bad ha hb]; rfl
 ·rw [hb,Nat.sub_self,elG,if_neg (by omega)]; rfl
theorem elP_end {s : ByteArray} {out : List ElElement} (h : ElP s s.size out) : elD s = if evB out = true then some out else none:=by
 unfold ElP at h;unfold elD;rw [h,elG_done];simp
theorem elP_word {s : ByteArray} {a : Nat} {out : List ElElement} (h : ElP s a out) (ha : a < s.size) (hl : out.length < 8) (hw : wordB (eNm s a) = false) : elD s = none:=by
 by_cases hok : eOk s a
 ·have h1:=elP_step h ha hl hok
  unfold ElP at h1;unfold elD;rw [h1];cases hg : elG s (8 - (out ++ [eAt s a]).length) (eL s a + 1) with
  | none => rfl
  | some l =>
   have he : evB ((out ++ [eAt s a]) ++ l) = false:=evB_no (e:=eAt s a) (by simp) (by unfold eB eAt; rw [hw]; rfl)
   show (if evB ((out ++ [eAt s a]) ++ l) = true then _ else _) = none
   rw [he]; rfl
 ·exact elP_bad h ha (.inl hok)
theorem eB_at {s : ByteArray} {a : Nat} (h : eOk s a) (hw : wordB (eNm s a) = true) : eB (eAt s a) = true:=by
 unfold eB eAt;rw [hw,textB_true (un_valid h.2.2.1)]; rfl
theorem elOf_valid (s : ByteArray) : evB (elOf s) = true:=by
 unfold elOf;cases h : elD s with
 | none => rfl
 | some l =>
  unfold elD at h;cases hg : elG s 8 0 with
  | none => rw [hg] at h; cases h
  | some m =>
   rw [hg] at h;simp only [Option.bind_some] at h
   split at h
   ·next he => injection h with h; subst h; exact he
   ·cases h
def tlA (A : Option Addr) (cap k sz : Nat) : Option Addr:=if cap = k then A else A.map (·.add (k * sz))
theorem run_from {P : Program} {t e : TypeId} {z : Option Value} {sz bytes : Nat} (ht : P.underlying t = some (.slice e)) (hinfo : (P.info? e).map (fun i => (i.zero,i.size,i.bytes)) = some (z,sz,bytes)) (A : Option Addr) (n cap k : Nat) (hk : k ≤ n) (w : World) :
    (Instr.slice t (.slice A n cap) (some (.int .i64 (k : Int))) none none).run P w = .ok (.slice (tlA A cap k sz) (n - k) (cap - k)) w:=by
 have he : P.elem t = e:=by simp [Program.elem,ht]
 have ht' : P.underlying t = some (.slice (P.elem t)):=by rw [he]; exact ht
 have hs : ((sizeOf e).run P w) = .ok sz w:=by
  cases hi : P.info? e with
  | none => rw [hi] at hinfo; cases hinfo
  | some i =>
   rw [hi] at hinfo;simp only [Option.map_some,Option.some.injEq,Prod.mk.injEq] at hinfo;simp [sizeOf,typeInfo,hi,hinfo.2.1]
 rw [run_slice_l w t A n cap ht' .i64 k (by omega) (by omega),he,hs];simp [Result.andThen,sliced,tlA]
theorem run_upto {P : Program} {t e : TypeId} {z : Option Value} {sz bytes : Nat} (ht : P.underlying t = some (.slice e)) (hinfo : (P.info? e).map (fun i => (i.zero,i.size,i.bytes)) = some (z,sz,bytes)) (A : Option Addr) (n cap k : Nat) (hk : k ≤ cap) (w : World) :
    (Instr.slice t (.slice A n cap) none (some (.int .i64 (k : Int))) none).run P w = .ok (.slice (tlA A cap 0 sz) k cap) w:=by
 have he : P.elem t = e:=by simp [Program.elem,ht]
 have ht' : P.underlying t = some (.slice (P.elem t)):=by rw [he]; exact ht
 have hs : ((sizeOf e).run P w) = .ok sz w:=by
  cases hi : P.info? e with
  | none => rw [hi] at hinfo; cases hinfo
  | some i =>
   rw [hi] at hinfo;simp only [Option.map_some,Option.some.injEq,Prod.mk.injEq] at hinfo;simp [sizeOf,typeInfo,hi,hinfo.2.1]
 rw [run_slice_h w t A n cap ht' .i64 k (by omega) (by omega),he,hs];simp [Result.andThen,sliced,tlA]
theorem wpList_appG {P : Program} {w : World} {ops : Array Oper} {rest : List Oper} {o : Oper} {a : Act} {Q : Exit → Act → World → Prop} (hw : Region.wanted o (yielded ops a.tmps) = true) (s x : Operand) (t : TypeId)
    (ho : o.op = .call { callee:=.builtin .append,args:=#[s,x],argTypes:=#[t,t] })
    (base : Nat) (e : TypeId) (z : Value) (sz bytes : Nat) (ht : P.underlying t = some (.slice e)) (hinfo : (P.info? e).map (fun i => (i.zero,i.size,i.bytes)) = some (some z,sz,bytes))
    (hzs : z.cells.size = sz) (hsz : 0 < sz) (A A' : Option Addr) (n cap m c B : Nat) (f g : Nat → Value) (hs : a.eval s = .slice A n cap) (hx : a.eval x = .slice A' m c) (hown : Own w base e sz A n cap f) (hr : Rd w B sz A' m g) (h1 : ∀ j,j < m * sz → (g j).oneCell' = true)
    (h63 : n + m ≤ maxLen) (hbytes : (n + m) * bytes ≤ 140737488355328) (hbase : base ≤ w.heap.size)
    (h : ∀ A1 cap1 w1,Own w1 base e sz A1 (n + m) cap1 (fun j => if j < n * sz then f j else g (j - n * sz)) → w.grownBy w1 (blk A) → wpList P ops Q rest (a.put o.dst (.slice A1 (n + m) cap1)) w1) : wpList P ops Q (o :: rest) a w:=by
 refine wpList_step fun K hK => ?_
 rw [if_pos hw];obtain ⟨A1,cap1,w1,hrun,h2,h3⟩:=run_append (P:=P) (w:=w) base t o.type e z sz bytes ht hinfo hzs hsz A A' n cap m c B f g hown hr h1 h63 hbytes hbase;unfold Oper.wp execOp;simp only [ho,resolve,invoke,builtin,Sem.run_bind,Sem.run_pure,Result.andThen_ok,List.map_toArray,List.map_cons,List.map_nil,hs,hx,hrun];exact hK _ _ (h A1 cap1 w1 h2 h3)
theorem tlA_some {b off : Nat} (cap k sz : Nat) : tlA (some ⟨b,off,none⟩) cap k sz = some ⟨b,if cap = k then off else off + k * sz,none⟩:=by
 unfold tlA
 split
 ·rfl
 ·simp [Addr.add]
theorem Shp.tail {A : Option Addr} {n cap k sz : Nat} (h : Shp A n cap) (hk : k ≤ n) : Shp (tlA A cap k sz) (n - k) (cap - k):=by
 rcases h with ⟨rfl,rfl,rfl⟩ | ⟨b,off,rfl,h1,h2⟩
 ·obtain rfl : k = 0:=by omega
  exact .inl ⟨by simp [tlA],rfl,rfl⟩
 ·rw [tlA_some]
  exact .inr ⟨b,_,rfl,by omega,by omega⟩
section
variable {α : Type} [Inhabited α] {sz : Nat} {enc : α → Nat → Value} {w : World} {B cap : Nat} {A : Option Addr} {xs : List α}
theorem RdE.tail (h : RdE sz enc w B A xs) (hS : Shp A xs.length cap) (k : Nat) (hk : k ≤ xs.length) : RdE sz enc w B (tlA A cap k sz) (xs.drop k):=by
 rcases hS with ⟨rfl,h1,h2⟩ | ⟨b,off,rfl,h1,h2⟩
 ·exact fun hp => by simp at hp; omega
 ·by_cases hc : cap = k
  ·exact fun hp => by simp at hp; omega
  ·rw [tlA_some,if_neg hc]
   exact RdE.drop h
theorem RdE.head (h : RdE sz enc w B A xs) (cap k : Nat) : RdE sz enc w B (tlA A cap 0 sz) (xs.take k):=by
 have he : tlA A cap 0 sz = A:=by
  cases A with
  | none => unfold tlA; split <;> rfl
  | some a => unfold tlA; split <;> (first | rfl | (simp [Addr.add]))
 rw [he];exact RdE.take h k
end
end Go.Proofs.YtfnmlffpnmmcdaaGreatDoor
namespace Go.Proofs.YtfnmlffpnmmcdaaGreatDoor
set_option maxRecDepth 100000
open Go.RowKit
set_option maxHeartbeats 1600000 in
theorem specElementsValid_any (A : Option Addr) (cap B : Nat) (xs : List ElElement) (w : World) (h : RdE 2 encElement w B A xs) (hB : B ≤ w.heap.size) (hl : xs.length ≤ 140737488351232) (hsz : ∀ k,k < xs.length → (gt xs k).1.size ≤ maxLen ∧ (gt xs k).2.size ≤ maxLen) :
    Calls Tryz.prog 121 #[.slice A xs.length cap] w fun e w' => e = .returned (.bool (evB xs)) ∧ Below w.heap.size w w':=by
 have HD:=Lib.hid hsz;clear hsz;go_enter Tryz.func121,Tryz.ntmps121
 go_wp2_with fail
 go_loopw [3] (fun i wr => ∃ k : Nat,k ≤ xs.length ∧ Hid (upTo (fun xs k => eB (gt xs k) = true) xs k) ∧ i = .int .i64 k ∧ Below w.heap.size w wr) (fun i _ => xs.length - (intOf i).toNat)
 case atStart => exact ⟨0,Nat.zero_le _,Lib.hid upTo_zero,rfl,Below.refl _ _⟩
 case round =>
  obtain ⟨k,hk,hok,rfl,hbl⟩:=hrel;have hsw:=hbl.size;by_cases hlt : k < xs.length
  ·obtain ⟨z0,z1⟩:=HD.out k hlt
   obtain ⟨b,off,rfl,hb,hc⟩:=(h.below (hbl.mono hB)).at_ (by omega);have c0 : wr.cell? ⟨b,off + k * 2,none⟩ = some (Value.string (gt xs k).1):=hc k 0 (by omega) (by omega);have c1 : wr.cell? ⟨b,off + k * 2 + 1,none⟩ = some (Value.string (gt xs k).2):=hc k 1 (by omega) (by omega);clear hc;cases q1 : wordB (gt xs k).1
   ·have HQ:=Lib.hid (show evB xs = false from vdB_bad (Ok:=(fun xs k => eB (gt xs k) = true)) (mx:=8) hlt (fun hk => by rw [eB,q1] at hk; cases hk))
    go_wp2_with (first | (go_at_call 119; refine (specWordValid_any _ _ (by assumption)).mono ?_; rintro e w' ⟨rfl,rfl⟩) | (go_at_call 124; refine (specTextValid_any _ _ (by assumption)).mono ?_; rintro e w' ⟨rfl,rfl⟩))
    go_ret;exact ⟨ret_bool HQ.out.symm,(by repeat (first | assumption | refine below_drewN ?_ _ | refine Below.alloc ?_ (by first | omega | (simp; done) | (simp; omega)) _))⟩
   ·cases q2 : textB (gt xs k).2
    ·have HQ:=Lib.hid (show evB xs = false from vdB_bad (Ok:=(fun xs k => eB (gt xs k) = true)) (mx:=8) hlt (fun hk => by rw [eB,q1,q2] at hk; cases hk))
     go_wp2_with (first | (go_at_call 119; refine (specWordValid_any _ _ (by assumption)).mono ?_; rintro e w' ⟨rfl,rfl⟩) | (go_at_call 124; refine (specTextValid_any _ _ (by assumption)).mono ?_; rintro e w' ⟨rfl,rfl⟩))
     go_ret;exact ⟨ret_bool HQ.out.symm,(by repeat (first | assumption | refine below_drewN ?_ _ | refine Below.alloc ?_ (by first | omega | (simp; done) | (simp; omega)) _))⟩
    ·have HN:=Lib.hid (upTo_succ (Ok:=(fun xs k => eB (gt xs k) = true)) hok.out (show eB (gt xs k) = true by rw [eB,q1,q2]; rfl))
     go_wp2_with (first | (go_at_call 119; refine (specWordValid_any _ _ (by assumption)).mono ?_; rintro e w' ⟨rfl,rfl⟩) | (go_at_call 124; refine (specTextValid_any _ _ (by assumption)).mono ?_; rintro e w' ⟨rfl,rfl⟩))
     go_roundw
     case rel => exact ⟨k + 1,by omega,HN,by go_num,(by repeat (first | assumption | refine below_drewN ?_ _ | refine Below.alloc ?_ (by first | omega | (simp; done) | (simp; omega)) _))⟩
     case measure => simp [intOf]; omega
  ·obtain rfl : k = xs.length:=by omega
   have HQ:=Lib.hid (show decide ((xs.length : Int) ≤ 8) = evB xs from vdB_all (mx:=8) hok.out)
   go_wp2_with fail
   go_ret;exact ⟨ret_bool HQ.out,hbl⟩
set_option maxHeartbeats 1600000 in
theorem implElementsValid_any (A : Option Addr) (cap B : Nat) (xs : List ElElement) (w : World) (h : RdE 2 encElement w B A xs) (hB : B ≤ w.heap.size) (hl : xs.length ≤ 140737488351232) (hsz : ∀ k,k < xs.length → (gt xs k).1.size ≤ maxLen ∧ (gt xs k).2.size ≤ maxLen) :
    Calls Tryz.prog 156 #[.slice A xs.length cap] w fun e w' => e = .returned (.bool (evB xs)) ∧ Below w.heap.size w w':=by
 have HD:=Lib.hid hsz;clear hsz;by_cases hlen : xs.length ≤ 8
 ·have hd : decide (8 < (xs.length : Int)) = false:=decide_eq_false (by omega)
  go_enter Tryz.func156,Tryz.ntmps156
  go_wp2_with fail
  go_loopw [10] (fun i wr => ∃ k : Nat,k ≤ xs.length ∧ Hid (upTo (fun xs k => eB (gt xs k) = true) xs k) ∧ i = .int .i64 k ∧ Below w.heap.size w wr) (fun i _ => xs.length - (intOf i).toNat)
  case atStart => exact ⟨0,Nat.zero_le _,Lib.hid upTo_zero,rfl,Below.refl _ _⟩
  case round =>
   obtain ⟨k,hk,hok,rfl,hbl⟩:=hrel;have hsw:=hbl.size;by_cases hlt : k < xs.length
   ·obtain ⟨z0,z1⟩:=HD.out k hlt
    obtain ⟨b,off,rfl,hb,hc⟩:=(h.below (hbl.mono hB)).at_ (by omega);have c0 : wr.cell? ⟨b,off + k * 2,none⟩ = some (Value.string (gt xs k).1):=hc k 0 (by omega) (by omega);have c1 : wr.cell? ⟨b,off + k * 2 + 1,none⟩ = some (Value.string (gt xs k).2):=hc k 1 (by omega) (by omega);have e0 : (wr.alloc (.cells #[.string (gt xs k).1,.string (gt xs k).2] 107)).cell? ⟨wr.heap.size,0,none⟩ = some (Value.string (gt xs k).1):=by rw [World.cell?_alloc_at _ _ _ _ rfl]; rfl
    have e1 : (wr.alloc (.cells #[.string (gt xs k).1,.string (gt xs k).2] 107)).cell? ⟨wr.heap.size,1,none⟩ = some (Value.string (gt xs k).2):=by rw [World.cell?_alloc_at _ _ _ _ rfl]; rfl
    clear hc;cases q1 : wordB (gt xs k).1
    ·have HQ:=Lib.hid (show evB xs = false from vdB_bad (Ok:=(fun xs k => eB (gt xs k) = true)) (mx:=8) hlt (fun hk => by rw [eB,q1] at hk; cases hk))
     go_wp2_with (first | (go_at_call 68; refine (implWordValid_any _ _ (by assumption)).mono ?_; rintro e w' ⟨rfl,rfl⟩) | (go_at_call 140; refine (implTextValid_any _ _ (by assumption)).mono ?_; rintro e w' ⟨rfl,rfl⟩))
     go_ret;exact ⟨ret_bool HQ.out.symm,(by repeat (first | assumption | refine below_drewN ?_ _ | refine Below.alloc ?_ (by first | omega | (simp; done) | (simp; omega)) _))⟩
    ·cases q2 : textB (gt xs k).2
     ·have HQ:=Lib.hid (show evB xs = false from vdB_bad (Ok:=(fun xs k => eB (gt xs k) = true)) (mx:=8) hlt (fun hk => by rw [eB,q1,q2] at hk; cases hk))
      go_wp2_with (first | (go_at_call 68; refine (implWordValid_any _ _ (by assumption)).mono ?_; rintro e w' ⟨rfl,rfl⟩) | (go_at_call 140; refine (implTextValid_any _ _ (by assumption)).mono ?_; rintro e w' ⟨rfl,rfl⟩))
      go_ret;exact ⟨ret_bool HQ.out.symm,(by repeat (first | assumption | refine below_drewN ?_ _ | refine Below.alloc ?_ (by first | omega | (simp; done) | (simp; omega)) _))⟩
     ·have HN:=Lib.hid (upTo_succ (Ok:=(fun xs k => eB (gt xs k) = true)) hok.out (show eB (gt xs k) = true by rw [eB,q1,q2]; rfl))
      go_wp2_with (first | (go_at_call 68; refine (implWordValid_any _ _ (by assumption)).mono ?_; rintro e w' ⟨rfl,rfl⟩) | (go_at_call 140; refine (implTextValid_any _ _ (by assumption)).mono ?_; rintro e w' ⟨rfl,rfl⟩))
      go_roundw
      case rel => exact ⟨k + 1,by omega,HN,by go_num,(by repeat (first | assumption | refine below_drewN ?_ _ | refine Below.alloc ?_ (by first | omega | (simp; done) | (simp; omega)) _))⟩
      case measure => simp [intOf]; omega
   ·obtain rfl : k = xs.length:=by omega
    have HQ:=Lib.hid (show evB xs = true from vdB_true ⟨hlen,hok.out⟩)
    go_wp2_with fail
    go_ret;exact ⟨ret_bool HQ.out.symm,hbl⟩
 ·have hd : decide (8 < (xs.length : Int)) = true:=decide_eq_true (by omega)
  have HQ:=Lib.hid (show evB xs = false from vdB_long (by omega));go_enter Tryz.func156,Tryz.ntmps156
  go_wp2_with fail
  go_ret;exact ⟨ret_bool HQ.out.symm,Below.refl _ _⟩
end Go.Proofs.YtfnmlffpnmmcdaaGreatDoor
namespace Go.Proofs.YtfnmlffpnmmcdaaGreatDoor
set_option maxRecDepth 100000
open Go.RowKit
def ctA (s : ByteArray) (c : UInt8) : ByteArray:=if fb s c.toNat 0 < s.size then s.extract 0 (fb s c.toNat 0) else s
def ctB (s : ByteArray) (c : UInt8) : ByteArray:=if fb s c.toNat 0 < s.size then s.extract (fb s c.toNat 0 + 1) s.size else { data:=#[] }
def ctF (s : ByteArray) (c : UInt8) : Bool:=decide (fb s c.toNat 0 < s.size)
theorem lcut_any (s : ByteArray) (c : UInt8) (w : World) (hs : s.size ≤ maxLen) : Calls Tryz.prog 99 #[.string s,.string ⟨#[c]⟩] w fun e w' => e = .returned (.tuple #[.string (ctA s c),.string (ctB s c),.bool (ctF s c)]) ∧ Below w.heap.size w w':=by
 unfold maxLen at hs;have hcall:=Tryz.stringslite_Index_one s c w;rw [indexByte_fb] at hcall;have hle:=fb_le (s:=s) (c:=c.toNat) (a:=0) (Nat.zero_le _);by_cases h : fb s c.toNat 0 < s.size
 ·rw [if_pos h] at hcall
  have HC:=Lib.hid hcall;have HQ:=Lib.hid (show ctA s c = s.extract 0 (fb s c.toNat 0) ∧ ctB s c = s.extract (fb s c.toNat 0 + 1) s.size ∧ ctF s c = true from ⟨if_pos h,if_pos h,decide_eq_true h⟩);clear hcall;obtain ⟨k,hk⟩ : ∃ k,fb s c.toNat 0 = k:=⟨_,rfl⟩;rw [hk] at HC HQ h hle;have d0 : decide ((0 : Int) ≤ (k : Int)) = true:=decide_eq_true (by omega);have hw2 : IntKind.i64.wrap ((k : Int) + 1) = (k : Int) + 1:=IntWalk.i64_in _ (by omega);have hk1 : ((k : Int) + 1).toNat = k + 1:=by omega
  have hk3 : (0 : Int) ≤ (k : Int) + 1:=by omega
  have hk4 : (k : Int) + 1 ≤ (s.size : Int):=by omega
  have hk5 : (0 : Int) ≤ (k : Int):=by omega
  have hk6 : (k : Int) ≤ (s.size : Int):=by omega
  clear hk;go_enter Tryz.func99,Tryz.ntmps99
  go_wp2_with fail
  refine HC.out.mono ?_;rintro e w' ⟨rfl,rfl⟩
  go_wp2_with fail
  go_quiet (fail)
  go_wp2_with fail
  go_ret3;refine ⟨?_,below_drewN (Below.refl _ _) _⟩;rw [HQ.out.1,HQ.out.2.1,HQ.out.2.2]
  try rfl
 ·rw [if_neg h] at hcall
  have HC:=Lib.hid hcall;have HQ:=Lib.hid (show ctA s c = s ∧ ctB s c = { data:=#[] } ∧ ctF s c = false from ⟨if_neg h,if_neg h,decide_eq_false h⟩);clear hcall;go_enter Tryz.func99,Tryz.ntmps99
  go_wp2_with fail
  refine HC.out.mono ?_;rintro e w' ⟨rfl,rfl⟩
  go_wp2_with fail
  go_ret3;refine ⟨?_,Below.refl _ _⟩;rw [HQ.out.1,HQ.out.2.1,HQ.out.2.2]
  try rfl
theorem cut_any (s : ByteArray) (c : UInt8) (w : World) (hs : s.size ≤ maxLen) : Calls Tryz.prog 48 #[.string s,.string ⟨#[c]⟩] w fun e w' => e = .returned (.tuple #[.string (ctA s c),.string (ctB s c),.bool (ctF s c)]) ∧ Below w.heap.size w w':=by
 have HC:=Lib.hid (lcut_any s c w hs);generalize ctF s c = f at *
 go_enter Tryz.func48,Tryz.ntmps48
 go_wp2_with fail
 refine HC.out.mono ?_;rintro e w' ⟨rfl,hb⟩
 go_wp2_with fail
 go_ret3;exact ⟨rfl,hb⟩
def feOk (s : ByteArray) : Prop:=eOk s 0 ∧ wordB (eNm s 0) = true
instance (s : ByteArray) : Decidable (feOk s):=inferInstanceAs (Decidable (_ ∧ _))
def feE (s : ByteArray) : ElElement:=if feOk s then eAt s 0 else ({ data:=#[] },{ data:=#[] })
def feN (s : ByteArray) : Nat:=if feOk s then eL s 0 + 1 else 0
theorem fe_yes {s : ByteArray} (h : feOk s) : feE s = eAt s 0 ∧ feN s = eL s 0 + 1:=⟨if_pos h,if_pos h⟩
theorem fe_no {s : ByteArray} (h : ¬ feOk s) : feE s = ({ data:=#[] },{ data:=#[] }) ∧ feN s = 0:=⟨if_neg h,if_neg h⟩
theorem ix62 {s : ByteArray} (hp : 0 < s.size) (h : bb s 0 = 60) : Lib.indexByte s.data.toList (62 : Int).toNat.toUInt8 = if eN s 0 < s.size then ((eN s 0 : Nat) : Int) else -1:=by
 have h1:=indexByte_fb s 62;have h2 : fb s (((62 : UInt8).toNat : Nat) : Int) 0 = eN s 0:=fb_step hp (by show bb s 0 ≠ 62; omega);rw [h2] at h1;exact h1
theorem ix60 {s : ByteArray} (h : eN s 0 ≤ s.size) : Lib.indexByte (s.extract (eN s 0) s.size).data.toList (60 : Int).toNat.toUInt8 = if eT s 0 < s.size then ((eT s 0 - eN s 0 : Nat) : Int) else -1:=by
 have h1:=indexByte_fb (s.extract (eN s 0) s.size) 60;have h2 : fb (s.extract (eN s 0) s.size) (((60 : UInt8).toNat : Nat) : Int) 0 + eN s 0 = eT s 0:=fb_tail h;have hz : (s.extract (eN s 0) s.size).size = s.size - eN s 0:=size_ext (Nat.le_refl _);refine Eq.trans h1 ?_;generalize fb (s.extract (eN s 0) s.size) (((60 : UInt8).toNat : Nat) : Int) 0 = d at *
 rw [hz];by_cases h3 : eT s 0 < s.size
 ·rw [if_pos (by omega),if_pos h3,show eT s 0 - eN s 0 = d by omega]
 ·rw [if_neg (by omega),if_neg h3]
theorem pre_cls {s x : ByteArray} {e : Nat} (he : e ≤ s.size) : ((cls x).size ≤ (s.extract e s.size).size ∧ (s.extract e s.size).extract 0 (cls x).size = cls x) ↔ (e + (cls x).size ≤ s.size ∧ s.extract e (e + (cls x).size) = cls x):=by
 have hz : (s.extract e s.size).size = s.size - e:=size_ext (Nat.le_refl _);rw [hz];constructor
 ·rintro ⟨h1,h2⟩
  rw [ext_ext (Nat.le_refl _) (by omega),Nat.add_zero] at h2;exact ⟨by omega,h2⟩
 ·rintro ⟨h1,h2⟩
  refine ⟨by omega,?_⟩;rw [ext_ext (Nat.le_refl _) (by omega),Nat.add_zero];exact h2
set_option maxHeartbeats 1600000 in
theorem firstElement_any (s : ByteArray) (w : World) (hs : s.size ≤ maxLen) (hp : 0 < s.size) (hT : EsTab w) : Calls Tryz.prog 155 #[.string s] w fun e w' => e = .returned (.tuple #[.agg #[.string (feE s).1,.string (feE s).2],.int .i64 (feN s)]) ∧ Below w.heap.size w w':=by
 have hsm:=hs;unfold maxLen at hs;have oR : OwnE 2 encElement 107 (w.alloc (.cells #[.string { data:=#[] },.string { data:=#[] }] 107)) w.heap.size (some ⟨w.heap.size,0,none⟩) 1 [({ data:=#[] },{ data:=#[] })]:=Own.lit w 107 2 1 #[.string { data:=#[] },.string { data:=#[] }] (cE 2 encElement [({ data:=#[] },{ data:=#[] })]) (by simp only [maxLen]; omega) rfl;have hbA : Below w.heap.size w (w.alloc (.cells #[.string { data:=#[] },.string { data:=#[] }] 107)):=(Below.refl _ _).alloc (Nat.le_refl _) _;have hzA : w.heap.size < (w.alloc (.cells #[.string { data:=#[] },.string { data:=#[] }] 107)).heap.size:=by simp
 have HT:=Lib.hid (hT.below hbA (Nat.le_refl _));clear hT;have hbb:=bb_eq s;by_cases h0 : bb s 0 = 60
 ·have e0 : (bb s 0 != 60) = false:=by simp [h0]
  have hix:=ix62 hp h0;have ho:=e_order (s:=s) (a:=0) hp;by_cases h1 : eN s 0 < s.size
  ·rw [if_pos h1] at hix
   have hc1:=fun W => Tryz.strings_IndexByte s 62 W
   rw [hix] at hc1;have HC1:=Lib.hid hc1;have hix2:=ix60 (s:=s) (by omega);have hz2 : (s.extract (eN s 0) s.size).size = s.size - eN s 0:=size_ext (Nat.le_refl _);have hz3 : (s.extract 1 (eN s 0)).size ≤ maxLen:=by rw [ByteArray.size_extract]; omega
   have hd0 : decide (((eN s 0 : Nat) : Int) < 0) = false:=decide_eq_false (by omega);have hd1 : (1 : Int) ≤ ((eN s 0 : Nat) : Int):=by omega
   have hd2 : ((eN s 0 : Nat) : Int) ≤ (s.size : Int):=by omega
   cases hw : wordB (s.extract 1 (eN s 0))
   ·skip
    have HQ:=Lib.hid (fe_no (s:=s) (fun h => by have:=h.2; unfold eNm at this; rw [hw] at this; cases this));clear hix hix2 hc1;have r0:=oR.cell (b:=w.heap.size) rfl (j:=0) (by simp);have r1:=oR.cell (b:=w.heap.size) rfl (j:=1) (by simp);have rf0:=oR.frozen (b:=w.heap.size) rfl 0;have rf1:=oR.frozen (b:=w.heap.size) rfl 1;have r0 : _ = some (Value.string { data:=#[] }):=r0;have r1 : _ = some (Value.string { data:=#[] }):=r1;go_enter Tryz.func155,Tryz.ntmps155
    go_wp2_with fail
    generalize (w.alloc (.cells #[.string { data:=#[] },.string { data:=#[] }] 107)) = wA at *
    refine (HC1.out _).mono ?_;rintro e w' ⟨rfl,rfl⟩
    go_wp2_with (go_at_call 68; refine (implWordValid_any _ _ (by assumption)).mono ?_; rintro e w' ⟨rfl,rfl⟩)
    go_wp2_with fail
    exact bodyPost_ret (v:=.tuple #[.agg #[.string { data:=#[] },.string { data:=#[] }],.int .i64 0]) (by simp [results,Tryz.results155,go_sem,r0,r1]) rfl ⟨by rw [HQ.out.1,HQ.out.2]; rfl,(by first | exact hbA | exact ((hbA.setCell (p:=⟨w.heap.size,0,none⟩) (Nat.le_refl _) _).setCell (p:=⟨w.heap.size,1,none⟩) (Nat.le_refl _) _))⟩
   ·obtain ⟨x,hx⟩ : ∃ x,s.extract 1 (eN s 0) = x:=⟨_,rfl⟩
    have hnm : eNm s 0 = x:=hx;rw [hx] at hw hz3;have hz5 : x.size ≤ 8:=(Word.of hw).2.1;by_cases h2 : eT s 0 < s.size
    ·rw [if_pos h2] at hix2
     have hgt:=eT_gt hp h1;have hc2:=fun W => Tryz.strings_IndexByte (s.extract (eN s 0) s.size) 60 W
     rw [hix2] at hc2;have HC2:=Lib.hid hc2;obtain ⟨d,hd⟩ : ∃ d,eT s 0 = eN s 0 + d:=⟨eT s 0 - eN s 0,by omega⟩;have hz4 : (s.extract (eN s 0 + 1) (eN s 0 + d)).size ≤ maxLen:=by rw [ByteArray.size_extract]; omega
     have htx : eTx s 0 = (s.extract (eN s 0 + 1) (eN s 0 + d)):=by unfold eTx; rw [hd]
     have hcu:=fun W hT => implUnescapeText_any (s.extract (eN s 0 + 1) (eN s 0 + d)) W hz4 hT
     have hd3 : ((eN s 0 : Nat) : Int) + (d : Int) ≤ (s.size : Int):=by omega
     have hd4 : ((eN s 0 : Nat) : Int) + 1 ≤ ((eN s 0 : Nat) : Int) + (d : Int):=by omega
     have hd5 : (((eN s 0 : Nat) : Int) + (d : Int)).toNat = eN s 0 + d:=by omega
     have hd6 : (((eN s 0 : Nat) : Int) + 1).toNat = eN s 0 + 1:=by omega
     have hd7 : decide (((eT s 0 - eN s 0 : Nat) : Int) < 0) = false:=decide_eq_false (by omega);have hd8 : ((eT s 0 - eN s 0 : Nat) : Int) = (d : Int):=by omega
     rw [hd8] at HC2 hd7;cases hu : unOk (s.extract (eN s 0 + 1) (eN s 0 + d))
     ·skip
      have HQ:=Lib.hid (fe_no (s:=s) (fun h => by have:=h.1.2.2.1; rw [htx,hu] at this; cases this));rw [hu] at hcu;have HU:=Lib.hid hcu;clear hcu hix hix2 hc1 hc2 htx hd hgt h2 ho hd8;go_enter Tryz.func155,Tryz.ntmps155
      go_wp2_with fail
      generalize (w.alloc (.cells #[.string { data:=#[] },.string { data:=#[] }] 107)) = wA at *
      refine (HC1.out _).mono ?_;rintro e w' ⟨rfl,rfl⟩
      go_wp2_with (go_at_call 68; refine (implWordValid_any _ _ (by assumption)).mono ?_; rintro e w' ⟨rfl,rfl⟩)
      refine (HC2.out _).mono ?_;rintro e w' ⟨rfl,rfl⟩
      go_wp2_with fail
      refine (HU.out _ HT.out).mono ?_;rintro e w1 ⟨rfl,b1⟩;have oR1:=Own.below oR b1;have k1:=hbA.trans (b1.mono hbA.size);have r0:=oR1.cell (b:=w.heap.size) rfl (j:=0) (by simp);have r1:=oR1.cell (b:=w.heap.size) rfl (j:=1) (by simp);have rf0:=oR1.frozen (b:=w.heap.size) rfl 0;have rf1:=oR1.frozen (b:=w.heap.size) rfl 1;have r0 : _ = some (Value.string { data:=#[] }):=r0;have r1 : _ = some (Value.string { data:=#[] }):=r1
      go_wp2_with fail
      exact bodyPost_ret (v:=.tuple #[.agg #[.string { data:=#[] },.string { data:=#[] }],.int .i64 0]) (by simp [results,Tryz.results155,go_sem,r0,r1]) rfl ⟨by rw [HQ.out.1,HQ.out.2]; rfl,(by first | exact k1 | exact ((k1.setCell (p:=⟨w.heap.size,0,none⟩) (Nat.le_refl _) _).setCell (p:=⟨w.heap.size,1,none⟩) (Nat.le_refl _) _))⟩
     ·have hpr:=fun W => Tryz.strings_HasPrefix (s.extract (eN s 0 + d) s.size) (cls x) W
      rw [hasPrefix_iff] at hpr;rw [hu] at hcu;have HU:=Lib.hid hcu;have hcz:=cls_size x;have hpc:=pre_cls (s:=s) (x:=x) (e:=eN s 0 + d) (by omega);have hcl : ({ data:=#[60,47] } ++ x : ByteArray) ++ { data:=#[62] } = cls x:=rfl;have hok1:=eOk_pre (s:=s) (a:=0) hp;rw [hd,hnm] at hok1;by_cases h3 : eN s 0 + d + (cls x).size ≤ s.size ∧ s.extract (eN s 0 + d) (eN s 0 + d + (cls x).size) = cls x
      ·have hfe : feOk s:=⟨hok1.2 ⟨h0,h1,by omega,by rw [htx]; exact hu,h3.1,h3.2⟩,by rw [hnm]; exact hw⟩
       have hl:=eL_pre hp hfe.1;rw [hnm] at hl;have hat : eAt s 0 = (x,unOf (s.extract (eN s 0 + 1) (eN s 0 + d))):=by unfold eAt; rw [htx,hnm]
       have HQ:=Lib.hid (show feE s = (x,unOf (s.extract (eN s 0 + 1) (eN s 0 + d))) ∧ feN s = eN s 0 + d + (cls x).size from ⟨(fe_yes hfe).1.trans hat,by rw [(fe_yes hfe).2,hl,hd]⟩);rw [decide_eq_true (hpc.2 h3)] at hpr;have HP:=Lib.hid hpr;have hd9 : ((eN s 0 : Nat) : Int) + (d : Int) + ((cls x).size : Int) ≤ (s.size : Int):=by have:=h3.1; omega
       have hcs : (cls x).size ≤ 11:=by omega
       clear hnm hpr hpc h3 hfe hl hat hok1 hcz hcu hix hix2 hc1 hc2 htx hd hgt h2 ho hd8;go_enter Tryz.func155,Tryz.ntmps155
       go_wp2_with fail
       generalize (w.alloc (.cells #[.string { data:=#[] },.string { data:=#[] }] 107)) = wA at *
       refine (HC1.out _).mono ?_;rintro e w' ⟨rfl,rfl⟩
       go_wp2_with (go_at_call 68; refine (implWordValid_any _ _ (by assumption)).mono ?_; rintro e w' ⟨rfl,rfl⟩)
       refine (HC2.out _).mono ?_;rintro e w' ⟨rfl,rfl⟩
       go_wp2_with fail
       refine (HU.out _ HT.out).mono ?_;rintro e w1 ⟨rfl,b1⟩;have oR1:=Own.below oR b1;have k1:=hbA.trans (b1.mono hbA.size);have r0:=oR1.cell (b:=w.heap.size) rfl (j:=0) (by simp);have r1:=oR1.cell (b:=w.heap.size) rfl (j:=1) (by simp);have rf0:=oR1.frozen (b:=w.heap.size) rfl 0;have rf1:=oR1.frozen (b:=w.heap.size) rfl 1;have r0 : _ = some (Value.string { data:=#[] }):=r0;have r1 : _ = some (Value.string { data:=#[] }):=r1
       go_wp2_with (go_at_call 118; (try rw [hcl]); refine (HP.out _).mono ?_; rintro e w' ⟨rfl,rfl⟩)
       go_wp2_with fail
       exact bodyPost_ret (v:=.tuple #[.agg #[.string x,.string (unOf (s.extract (eN s 0 + 1) (eN s 0 + d)))],.int .i64 (((eN s 0 : Nat) : Int) + (d : Int) + ((cls x).size : Int))]) (by simp [results,Tryz.results155,go_sem,r0,r1]) rfl ⟨by rw [HQ.out.1,HQ.out.2]; rfl,(by first | exact k1 | exact ((k1.setCell (p:=⟨w.heap.size,0,none⟩) (Nat.le_refl _) _).setCell (p:=⟨w.heap.size,1,none⟩) (Nat.le_refl _) _))⟩
      ·have HQ:=Lib.hid (fe_no (s:=s) (fun h => h3 ((hok1.1 h.1).2.2.2.2)))
       rw [decide_eq_false (fun h => h3 (hpc.1 h))] at hpr;have HP:=Lib.hid hpr;clear hnm hpr hpc h3 hok1 hcz hcu hix hix2 hc1 hc2 htx hd hgt h2 ho hd8;go_enter Tryz.func155,Tryz.ntmps155
       go_wp2_with fail
       generalize (w.alloc (.cells #[.string { data:=#[] },.string { data:=#[] }] 107)) = wA at *
       refine (HC1.out _).mono ?_;rintro e w' ⟨rfl,rfl⟩
       go_wp2_with (go_at_call 68; refine (implWordValid_any _ _ (by assumption)).mono ?_; rintro e w' ⟨rfl,rfl⟩)
       refine (HC2.out _).mono ?_;rintro e w' ⟨rfl,rfl⟩
       go_wp2_with fail
       refine (HU.out _ HT.out).mono ?_;rintro e w1 ⟨rfl,b1⟩;have oR1:=Own.below oR b1;have k1:=hbA.trans (b1.mono hbA.size);have r0:=oR1.cell (b:=w.heap.size) rfl (j:=0) (by simp);have r1:=oR1.cell (b:=w.heap.size) rfl (j:=1) (by simp);have rf0:=oR1.frozen (b:=w.heap.size) rfl 0;have rf1:=oR1.frozen (b:=w.heap.size) rfl 1;have r0 : _ = some (Value.string { data:=#[] }):=r0;have r1 : _ = some (Value.string { data:=#[] }):=r1
       go_wp2_with (go_at_call 118; (try rw [hcl]); refine (HP.out _).mono ?_; rintro e w' ⟨rfl,rfl⟩)
       go_wp2_with fail
       exact bodyPost_ret (v:=.tuple #[.agg #[.string { data:=#[] },.string { data:=#[] }],.int .i64 0]) (by simp [results,Tryz.results155,go_sem,r0,r1]) rfl ⟨by rw [HQ.out.1,HQ.out.2]; rfl,(by first | exact k1 | exact ((k1.setCell (p:=⟨w.heap.size,0,none⟩) (Nat.le_refl _) _).setCell (p:=⟨w.heap.size,1,none⟩) (Nat.le_refl _) _))⟩
    ·rw [if_neg h2] at hix2
     have hc2:=fun W => Tryz.strings_IndexByte (s.extract (eN s 0) s.size) 60 W
     rw [hix2] at hc2;have HC2:=Lib.hid hc2;have HQ:=Lib.hid (fe_no (s:=s) (fun h => by have:=h.1.2.1; have:=ho.2.2.1; omega));clear hix hix2 hc1 hc2 h2 ho;have r0:=oR.cell (b:=w.heap.size) rfl (j:=0) (by simp);have r1:=oR.cell (b:=w.heap.size) rfl (j:=1) (by simp);have rf0:=oR.frozen (b:=w.heap.size) rfl 0;have rf1:=oR.frozen (b:=w.heap.size) rfl 1;have r0 : _ = some (Value.string { data:=#[] }):=r0;have r1 : _ = some (Value.string { data:=#[] }):=r1;go_enter Tryz.func155,Tryz.ntmps155
     go_wp2_with fail
     generalize (w.alloc (.cells #[.string { data:=#[] },.string { data:=#[] }] 107)) = wA at *
     refine (HC1.out _).mono ?_;rintro e w' ⟨rfl,rfl⟩
     go_wp2_with (go_at_call 68; refine (implWordValid_any _ _ (by assumption)).mono ?_; rintro e w' ⟨rfl,rfl⟩)
     refine (HC2.out _).mono ?_;rintro e w' ⟨rfl,rfl⟩
     go_wp2_with fail
     exact bodyPost_ret (v:=.tuple #[.agg #[.string { data:=#[] },.string { data:=#[] }],.int .i64 0]) (by simp [results,Tryz.results155,go_sem,r0,r1]) rfl ⟨by rw [HQ.out.1,HQ.out.2]; rfl,(by first | exact hbA | exact ((hbA.setCell (p:=⟨w.heap.size,0,none⟩) (Nat.le_refl _) _).setCell (p:=⟨w.heap.size,1,none⟩) (Nat.le_refl _) _))⟩
  ·rw [if_neg h1] at hix
   have hc1:=fun W => Tryz.strings_IndexByte s 62 W
   rw [hix] at hc1;have HC1:=Lib.hid hc1;have HQ:=Lib.hid (fe_no (s:=s) (fun h => by have:=h.1.2.1; omega));clear hix hc1 h1 ho;have r0:=oR.cell (b:=w.heap.size) rfl (j:=0) (by simp);have r1:=oR.cell (b:=w.heap.size) rfl (j:=1) (by simp);have rf0:=oR.frozen (b:=w.heap.size) rfl 0;have rf1:=oR.frozen (b:=w.heap.size) rfl 1;have r0 : _ = some (Value.string { data:=#[] }):=r0;have r1 : _ = some (Value.string { data:=#[] }):=r1;go_enter Tryz.func155,Tryz.ntmps155
   go_wp2_with fail
   generalize (w.alloc (.cells #[.string { data:=#[] },.string { data:=#[] }] 107)) = wA at *
   refine (HC1.out _).mono ?_;rintro e w' ⟨rfl,rfl⟩
   go_wp2_with fail
   exact bodyPost_ret (v:=.tuple #[.agg #[.string { data:=#[] },.string { data:=#[] }],.int .i64 0]) (by simp [results,Tryz.results155,go_sem,r0,r1]) rfl ⟨by rw [HQ.out.1,HQ.out.2]; rfl,(by first | exact hbA | exact ((hbA.setCell (p:=⟨w.heap.size,0,none⟩) (Nat.le_refl _) _).setCell (p:=⟨w.heap.size,1,none⟩) (Nat.le_refl _) _))⟩
 ·have e0 : (bb s 0 != 60) = true:=by simp [h0]
  have HQ:=Lib.hid (fe_no (s:=s) (fun h => h0 h.1.1));have r0:=oR.cell (b:=w.heap.size) rfl (j:=0) (by simp);have r1:=oR.cell (b:=w.heap.size) rfl (j:=1) (by simp);have rf0:=oR.frozen (b:=w.heap.size) rfl 0;have rf1:=oR.frozen (b:=w.heap.size) rfl 1;have r0 : _ = some (Value.string { data:=#[] }):=r0;have r1 : _ = some (Value.string { data:=#[] }):=r1;go_enter Tryz.func155,Tryz.ntmps155
  go_wp2_with fail
  generalize (w.alloc (.cells #[.string { data:=#[] },.string { data:=#[] }] 107)) = wA at *
  go_wp2_with fail
  exact bodyPost_ret (v:=.tuple #[.agg #[.string { data:=#[] },.string { data:=#[] }],.int .i64 0]) (by simp [results,Tryz.results155,go_sem,r0,r1]) rfl ⟨by rw [HQ.out.1,HQ.out.2]; rfl,(by first | exact hbA | exact ((hbA.setCell (p:=⟨w.heap.size,0,none⟩) (Nat.le_refl _) _).setCell (p:=⟨w.heap.size,1,none⟩) (Nat.le_refl _) _))⟩
def strOf : Value → ByteArray
 | .string s => s
 | _ => ByteArray.empty
set_option maxHeartbeats 1600000 in
theorem implReadElements_any (s : ByteArray) (w : World) (hs : s.size ≤ maxLen) (hT : EsTab w) : Calls Tryz.prog 129 #[.string s] w fun e w' => ∃ R cR,e = .returned (.tuple #[.slice R (elOf s).length cR,.bool (elOk s)]) ∧ OwnE 2 encElement 107 w' w.heap.size R cR (elOf s) ∧ Below w.heap.size w w':=by
 have hsm:=hs;unfold maxLen at hs;have HT:=Lib.hid hT;clear hT;have hea:=extract_all s;go_enter Tryz.func129,Tryz.ntmps129
 go_wp2_with fail
 go_loopw [0,4,5,6,10] (fun t l _ _ _ wr => ∃ (a : Nat) (R : Option Addr) (c : Nat) (out : List ElElement),a ≤ s.size ∧ t = .string (s.extract a s.size) ∧ l = .slice R out.length c ∧ out.length ≤ 8 ∧ Hid (ElP s a out ∧ ∀ e,e ∈ out → eB e = true) ∧ OwnE 2 encElement 107 wr w.heap.size R c out ∧ Below w.heap.size w wr) (fun t _ _ _ _ _ => (strOf t).size)
 case atStart => exact ⟨0,none,0,[],Nat.zero_le _,by rw [hea],rfl,Nat.zero_le _,Lib.hid ⟨elP_zero s,fun e he => by cases he⟩,Own.nil _ _ _ _ _,Below.refl _ _⟩
 case round =>
  clear hea;obtain ⟨a,R,c,out,ha,rfl,rfl,h8,HI,hown,hbl⟩:=hrel;have hsz:=hbl.size;have hz : (s.extract a s.size).size = s.size - a:=size_ext (Nat.le_refl _);by_cases hlt : a < s.size
  ·have hx0:=eOk_tail hlt
   have hx1:=eAt_tail hlt;have hx2:=eL_tail hlt;have hx3:=eNm_tail hlt;have ho:=e_order hlt;have hTw:=HT.out.below hbl (Nat.le_refl _);have hcall:=firstElement_any (s.extract a s.size) wr (by rw [hz]; omega) (by omega) hTw;have hzp : 0 < (s.extract a s.size).size:=by omega
   have hzp2 : decide ((0 : Int) < ((s.extract a s.size).size : Int)) = true:=decide_eq_true (by omega);have hX:=Lib.hid hzp2;clear hTw;by_cases hf : feOk (s.extract a s.size)
   ·have hok : eOk s a:=hx0.1 hf.1
    have hw : wordB (eNm s a) = true:=by rw [← hx3]; exact hf.2
    have heb:=eB_at hok hw;rw [(fe_yes hf).1,(fe_yes hf).2,hx1] at hcall;obtain ⟨m,hm⟩ : ∃ m,eL (s.extract a s.size) 0 + 1 = m:=⟨_,rfl⟩;rw [hm] at hcall;have hma : a + m = eL s a + 1:=by omega
    have hmle : a + m ≤ s.size:=by have:=hok.2.1; omega
    have hm1 : 1 ≤ m:=by omega
    by_cases h8e : out.length = 8
    ·have h8d : ((out.length : Int) == 8) = true:=beq_iff_eq.2 (by omega)
     have hm0 : ((m : Int) == 0) = false:=beq_eq_false_iff_ne.2 (by omega);have HQ:=Lib.hid (el_none (elP_bad HI.out.1 hlt (.inr h8e)));have HC:=Lib.hid hcall;clear hcall hx0 hx1 hx2 hx3 ho hf hok hw heb hma hm h8e;generalize eAt s a = xy at *
     go_wp2_with fail
     refine HC.out.mono ?_;rintro e w1 ⟨rfl,b1⟩;have own1:=Own.below hown b1;have k1:=hbl.trans (b1.mono hsz);have z1:=k1.size
     go_wp2_with fail
     go_ret2;rw [HQ.out.1,HQ.out.2];exact ⟨none,0,rfl,Own.nil _ _ _ _ _,k1.alloc z1 _⟩
    ·have h8d : ((out.length : Int) == 8) = false:=beq_eq_false_iff_ne.2 (by omega)
     have hm0 : ((m : Int) == 0) = false:=beq_eq_false_iff_ne.2 (by omega);have HP:=Lib.hid (elP_step HI.out.1 hlt (by omega) hok);rw [← hma] at HP;have h8l : out.length < 8:=by omega
     have HX2:=Lib.hid (show (s.extract a s.size).extract m (s.size - a) = s.extract (a + m) s.size from (ext_ext (Nat.le_refl _) (Nat.le_refl _)).trans (by congr 1; omega));have hmi : (m : Int) ≤ ((s.extract a s.size).size : Int):=by omega
     have hmj : (m : Int) ≤ ((s.size - a : Nat) : Int):=by omega
     have HZ:=Lib.hid hz;clear hx0 hx1 hx2 hx3 ho hf hok hw hma hm h8e;generalize hxy : eAt s a = xy at *
     clear hxy;obtain ⟨x,y⟩:=xy;have HC:=Lib.hid hcall;clear hcall
     go_wp2_with fail
     refine HC.out.mono ?_;rintro e w1 ⟨rfl,b1⟩;have own1:=Own.below hown b1;have k1:=hbl.trans (b1.mono hsz);have z1:=k1.size;have hb0 : (w1.alloc (.cells #[.string x,.string y] 107)).cell? ⟨w1.heap.size,0,none⟩ = some (.string x):=by rw [World.cell?_alloc_at _ _ _ _ rfl]; rfl
     have hb1 : (w1.alloc (.cells #[.string x,.string y] 107)).cell? ⟨w1.heap.size,1,none⟩ = some (.string y):=by rw [World.cell?_alloc_at _ _ _ _ rfl]; rfl
     have hZ1 : w1.heap.size < (w1.alloc (.cells #[.string x,.string y] 107)).heap.size:=by simp
     have k2 : Below w.heap.size w (w1.alloc (.cells #[.string x,.string y] 107)):=k1.alloc z1 _;have own2:=Own.below own1 ((Below.refl _ _).alloc (Nat.le_refl _) (.cells #[.string x,.string y] 107));have RE:=rd_elem (w1.alloc (.cells #[.string x,.string y] 107)) 107 #[.string x,.string y] (sz:=2) (enc:=encElement) (x,y) (fun j hj => by rcases (by omega : j = 0 ∨ j = 1) with rfl | rfl <;> rfl);rw [show (w1.alloc (.cells #[.string x,.string y] 107)).heap.size = w1.heap.size + 1 by simp] at RE;have HRE:=Lib.hid RE;clear RE
     go_wp2_with (at_builtin; refine wpList_app rfl (.tmp 22) (.tmp 24) _ rfl w.heap.size 107 _ 2 32 Tryz.underlying103 info_Element rfl (by omega) R (some ⟨w1.heap.size + 1,0,none⟩) out.length c 1 1 (w1.heap.size + 1 + 1) (cE 2 encElement out) (encElement (x,y)) rfl rfl (Own.below own2 ((Below.refl _ _).alloc (Nat.le_refl _) _)) HRE.out (fun _ _ => encElement_one _ _) (by simp only [maxLen]; omega) (by omega) (by first | omega | (simp; done) | (simp; omega)) ?_; intro R2 c2 w3 own3 hg3)
     go_roundw
     case rel => exact ⟨a + m,R2,c2,out ++ [(x,y)],hmle,by rw [HX2.out],by rw [List.length_append]; rfl,by rw [List.length_append]; show out.length + 1 ≤ 8; omega,Lib.hid ⟨HP.out,fun e he => by
      rcases List.mem_append.1 he with h | h
      ·exact HI.out.2 e h
      ·obtain rfl:=List.mem_singleton.1 h
       exact heb⟩,OwnE.snoc (by omega) own3,k2.trans (((Below.refl _ _).alloc k2.size _).trans (grown_below hg3 (fun b hb => (Own.lt own2 hb).1) (by first | omega | (simp; done) | (simp; omega))))⟩
     case measure =>
      show ((s.extract a s.size).extract m (s.size - a)).size < _
      rw [HX2.out,size_ext (Nat.le_refl _)]
      first | omega | (show _ < (s.extract a s.size).size; rw [HZ.out]; omega)
   ·rw [(fe_no hf).1,(fe_no hf).2] at hcall
    have HC:=Lib.hid hcall;have hn : elD s = none:=by
     rcases Nat.lt_or_ge out.length 8 with q | q
     ·by_cases hok : eOk s a
      ·refine elP_word HI.out.1 hlt q ?_
       cases hw : wordB (eNm s a)
       ·rfl
       ·exact absurd ⟨hx0.2 hok,by rw [hx3]; exact hw⟩ hf
      ·exact elP_bad HI.out.1 hlt (.inl hok)
     ·exact elP_bad HI.out.1 hlt (.inr (by omega))
    have HQ:=Lib.hid (el_none (hn));clear hcall hn hx0 hx1 hx2 hx3 ho hf
    go_wp2_with fail
    refine HC.out.mono ?_;rintro e w1 ⟨rfl,b1⟩;have own1:=Own.below hown b1;have k1:=hbl.trans (b1.mono hsz);have z1:=k1.size
    go_wp2_with fail
    go_ret2;rw [HQ.out.1,HQ.out.2];exact ⟨none,0,rfl,Own.nil _ _ _ _ _,k1.alloc z1 _⟩
  ·obtain rfl : a = s.size:=by omega
   have hev : evB out = true:=evB_true h8 HI.out.2;have hD:=elP_end HI.out.1;rw [if_pos hev] at hD;have HQ:=Lib.hid (el_some hD);clear hev hD;have hz0 : (s.extract s.size s.size).size = 0:=by rw [hz]; omega
   clear hz
   go_wp2_with fail
   go_ret2;rw [HQ.out.1,HQ.out.2];exact ⟨R,c,rfl,hown,hbl⟩
theorem own_e {w W : World} {base : Nat} (hk : Below base w W) (hb : base ≤ w.heap.size) : OwnE 2 encElement 107 (W.alloc (.cells #[] 107)) base (some ⟨W.heap.size,0,none⟩) 0 ([] : List ElElement):=Own.more (Own.lit W 107 2 0 #[] _ (Nat.zero_le _) rfl) (Nat.le_trans hb hk.size)
theorem own_empty (w W : World) (base : Nat) (hb : base ≤ W.heap.size) (hk : Below base w W) : OwnE 2 encElement 107 (W.alloc (.cells #[] 107)) base (some ⟨W.heap.size,0,none⟩) 0 ([] : List ElElement) ∧ Below base w (W.alloc (.cells #[] 107)) :=
 ⟨Own.more (Own.lit W 107 2 0 #[] _ (Nat.zero_le _) rfl) hb,hk.alloc hb _⟩
set_option maxHeartbeats 3200000 in
theorem specReadElements_any (s : ByteArray) (w : World) (hs : s.size + 5 ≤ maxLen) : Calls Tryz.prog 83 #[.string s] w fun e w' => ∃ R cR,e = .returned (.tuple #[.slice R (elOf s).length cR,.bool (elOk s)]) ∧ OwnE 2 encElement 107 w' w.heap.size R cR (elOf s) ∧ Below w.heap.size w w':=by
 have hsm:=hs;unfold maxLen at hs;have hbb:=bb_eq s;go_enter Tryz.func83,Tryz.ntmps83;have h00:=own_empty w w w.heap.size (Nat.le_refl _) (Below.refl _ _)
 go_wp2_with fail
 go_loopw [4,5,6,7,8,9,10,11] (fun l t _ _ _ _ _ _ wr => ∃ (a : Nat) (R : Option Addr) (c : Nat) (out : List ElElement),a ≤ s.size ∧ t = .int .i64 a ∧ l = .slice R out.length c ∧ out.length ≤ 8 ∧ Hid (ElP s a out ∧ ∀ e,e ∈ out → e.1.size ≤ s.size ∧ e.2.size ≤ 80) ∧ OwnE 2 encElement 107 wr w.heap.size R c out ∧ Below w.heap.size w wr) (fun _ t _ _ _ _ _ _ _ => s.size - (intOf t).toNat)
 case atStart => exact ⟨0,_,0,[],Nat.zero_le _,rfl,rfl,Nat.zero_le _,Lib.hid ⟨elP_zero s,fun e he => by cases he⟩,h00.1,h00.2⟩
 case round =>
  clear h00;obtain ⟨a,R,c,out,ha,rfl,rfl,h8,HI,hown,hbl⟩:=hrel;have hsz:=hbl.size;by_cases hlt : a < s.size
  ·have ho:=e_order hlt
   have hai : (a : Int) < (s.size : Int):=by omega
   have ha0 : (0 : Int) ≤ (a : Int):=by omega
   have hE:=own_empty w wr w.heap.size hsz hbl;have HO:=Lib.hid ho;clear ho
   go_wp2_with fail
   go_loop [6] (fun i => ∃ k : Nat,a + 1 ≤ k ∧ k ≤ s.size ∧ Hid (eN s a = fb s 62 k) ∧ i = .int .i64 k) (fun i => s.size - (intOf i).toNat)
   case atStart => exact ⟨a + 1,Nat.le_refl _,by omega,Lib.hid rfl,by go_num⟩
   case round =>
    obtain ⟨n,n1,n2,nK,rfl⟩:=hrel;have n0 : (0 : Int) ≤ (n : Int):=by omega
    by_cases nl : n < s.size
    ·by_cases nc : bb s n = 62
     ·have nb : (bb s n != 62) = false:=by simp [nc]
      have hN : eN s a = n:=nK.out.trans (fb_here nl nc);have HNN:=Lib.hid hN;clear hN nK
      go_wp2_with fail
      go_loop [7] (fun i => ∃ k : Nat,n ≤ k ∧ k ≤ s.size ∧ Hid (eT s a = fb s 60 k) ∧ i = .int .i64 k) (fun i => s.size - (intOf i).toNat)
      case atStart => exact ⟨n,Nat.le_refl _,by omega,Lib.hid (by unfold eT; rw [HNN.out]),rfl⟩
      case round =>
       obtain ⟨q,q1,q2,qK,rfl⟩:=hrel;have q0 : (0 : Int) ≤ (q : Int):=by omega
       by_cases ql : q < s.size
       ·by_cases qc : bb s q = 60
        ·have qb : (bb s q != 60) = false:=by simp [qc]
         have hN : eT s a = q:=qK.out.trans (fb_here ql qc);have HTT:=Lib.hid hN;clear hN qK
         go_wp2_with fail
         go_loop [8] (fun i => ∃ k : Nat,q ≤ k ∧ k ≤ s.size ∧ Hid (eL s a = fb s 62 k) ∧ i = .int .i64 k) (fun i => s.size - (intOf i).toNat)
         case atStart => exact ⟨q,Nat.le_refl _,by omega,Lib.hid (by unfold eL; rw [HTT.out]),rfl⟩
         case round =>
          obtain ⟨r,r1,r2,rK,rfl⟩:=hrel;have r0 : (0 : Int) ≤ (r : Int):=by omega
          by_cases rl : r < s.size
          ·by_cases rc : bb s r = 62
           ·have rb : (bb s r != 62) = false:=by simp [rc]
            have hN : eL s a = r:=rK.out.trans (fb_here rl rc);have HLL:=Lib.hid hN;clear hN rK;have hrne : ((r : Int) == (s.size : Int)) = false:=beq_eq_false_iff_ne.2 (by omega);have hnq : n + 1 ≤ q:=by have:=eT_gt hlt (by rw [HNN.out]; exact nl); rw [HNN.out,HTT.out] at this; exact this
            by_cases h60 : bb s a = 60
            ·have e60 : (bb s a != 60) = false:=by simp [h60]
             by_cases h8e : out.length = 8
             ·have h8d : ((out.length : Int) == 8) = true:=beq_iff_eq.2 (by omega)
              have HQ:=Lib.hid (el_none (elP_bad HI.out.1 hlt (.inr h8e)));clear h8e
              go_wp2_with fail
              go_ret2;rw [HQ.out.1,HQ.out.2];exact ⟨_,_,rfl,hE.1,hE.2⟩
             ·have h8d : ((out.length : Int) == 8) = false:=beq_eq_false_iff_ne.2 (by omega)
              have h8l : out.length < 8:=by omega
              clear h8e;have hd1 : (n : Int) + 1 ≤ (q : Int):=by omega
              have hd2 : ((n : Int) + 1).toNat = n + 1:=by omega
              have hd3 : (q : Int) ≤ (s.size : Int):=by omega
              have hd4 : (0 : Int) ≤ (n : Int) + 1:=by omega
              have hcu:=specUnescapeText_any (s.extract (n + 1) q) wr (by rw [ByteArray.size_extract]; unfold maxLen; omega);have hnm : eNm s a = s.extract (a + 1) n:=by unfold eNm; rw [HNN.out]
              have htx : eTx s a = (s.extract (n + 1) q):=by unfold eTx; rw [HNN.out,HTT.out]
              have han : a + 1 ≤ n:=by have:=HO.out.1; rw [HNN.out] at this; exact this
              obtain ⟨x,hx⟩ : ∃ x,s.extract (a + 1) n = x:=⟨_,rfl⟩;rw [hx] at hnm;have hxz : x.size ≤ s.size:=by rw [← hx,ByteArray.size_extract]; omega
              have hxm : x.size + 3 ≤ 9223372036854775807:=by omega
              have hf1 : (a : Int) + 1 ≤ (n : Int):=by omega
              have hf2 : ((a : Int) + 1).toNat = a + 1:=by omega
              have hf3 : (n : Int) ≤ (s.size : Int):=by omega
              have hf4 : (0 : Int) ≤ (a : Int) + 1:=by omega
              have hf5 : (q : Int) ≤ (r : Int) + 1:=by omega
              have hf6 : ((r : Int) + 1).toNat = r + 1:=by omega
              have hf7 : (r : Int) + 1 ≤ (s.size : Int):=by omega
              have hf8 : (0 : Int) ≤ (r : Int) + 1:=by omega
              have hf9 : (0 : Int) ≤ (q : Int):=by omega
              obtain ⟨y,hy⟩ : ∃ y,unOf (s.extract (n + 1) q) = y:=⟨_,rfl⟩;rw [hy] at hcu;have hy80 : y.size ≤ 80:=by rw [← hy]; exact unOf_size _
              have hat : eAt s a = (x,y):=by unfold eAt; rw [hnm,htx,hy]
              have hcl : ({ data:=#[60,47] } ++ x : ByteArray) ++ { data:=#[62] } = cls x:=rfl;have hokd : eOk s a ↔ (unOk (s.extract (n + 1) q) = true ∧ s.extract q (r + 1) = cls x):=by
               unfold eOk;rw [HLL.out,HTT.out,htx,hnm];exact ⟨fun h => h.2.2,fun h => ⟨h60,rl,h⟩⟩
              have HA:=Lib.hid hat;clear hat hy hnm htx;cases hu : unOk (s.extract (n + 1) q)
              ·rw [hu] at hcu
               have HQ:=Lib.hid (el_none (elP_bad HI.out.1 hlt (.inl (fun h => by have:=(hokd.1 h).1; rw [hu] at this; cases this))));have HU:=Lib.hid hcu;clear hcu hokd
               go_wp2_with fail
               refine HU.out.mono ?_;rintro e w1 ⟨rfl,b1⟩;have own1:=Own.below hown b1;have k1:=hbl.trans (b1.mono hsz);have z1:=k1.size;have hb0 : (w1.alloc (.cells #[.string x,.string y] 107)).cell? ⟨w1.heap.size,0,none⟩ = some (.string x):=by rw [World.cell?_alloc_at _ _ _ _ rfl]; rfl
               have hb1 : (w1.alloc (.cells #[.string x,.string y] 107)).cell? ⟨w1.heap.size,1,none⟩ = some (.string y):=by rw [World.cell?_alloc_at _ _ _ _ rfl]; rfl
               go_wp2_with fail
               go_quiet (fail)
               obtain ⟨W2,hW2⟩ : ∃ W2,W2 = (w1.alloc (.cells #[.string x,.string y] 107)).drewN nq:=⟨_,rfl⟩;have k2 : Below w.heap.size w W2:=by rw [hW2]; exact below_drewN (k1.alloc z1 _) _
               have own2 : OwnE 2 encElement 107 W2 w.heap.size R c out:=by rw [hW2]; exact Own.below own1 (below_drewN ((Below.refl _ _).alloc (Nat.le_refl _) _) _)
               have hb0 : W2.cell? ⟨w1.heap.size,0,none⟩ = some (.string x):=by rw [hW2]; exact hb0
               have hb1 : W2.cell? ⟨w1.heap.size,1,none⟩ = some (.string y):=by rw [hW2]; exact hb1
               have z2 : w1.heap.size < W2.heap.size:=by rw [hW2]; show w1.heap.size < (w1.alloc (.cells #[.string x,.string y] 107)).heap.size; simp
               rw [← hW2];clear hW2
               go_wp2_with fail
               go_ret2;rw [HQ.out.1,HQ.out.2];exact ⟨_,_,rfl,own_e k2 (Nat.le_refl _),k2.alloc k2.size _⟩
              ·rw [hu] at hcu
               by_cases hc : s.extract q (r + 1) = cls x
               ·have hok:=hokd.2 ⟨hu,hc⟩
                have HP:=Lib.hid (elP_step HI.out.1 hlt h8l hok);rw [HLL.out,HA.out] at HP;have q1 : ((s.extract q (r + 1)).toList == (cls x).toList) = true:=by rw [hc]; simp
                have q2 : ((s.extract q (r + 1)).toList != (cls x).toList) = false:=by rw [hc]; simp
                have HU:=Lib.hid hcu;clear hcu hokd hok hc
                go_wp2_with fail
                refine HU.out.mono ?_;rintro e w1 ⟨rfl,b1⟩;have own1:=Own.below hown b1;have k1:=hbl.trans (b1.mono hsz);have z1:=k1.size;have hb0 : (w1.alloc (.cells #[.string x,.string y] 107)).cell? ⟨w1.heap.size,0,none⟩ = some (.string x):=by rw [World.cell?_alloc_at _ _ _ _ rfl]; rfl
                have hb1 : (w1.alloc (.cells #[.string x,.string y] 107)).cell? ⟨w1.heap.size,1,none⟩ = some (.string y):=by rw [World.cell?_alloc_at _ _ _ _ rfl]; rfl
                go_wp2_with fail
                go_quiet (fail)
                obtain ⟨W2,hW2⟩ : ∃ W2,W2 = (w1.alloc (.cells #[.string x,.string y] 107)).drewN nq:=⟨_,rfl⟩;have k2 : Below w.heap.size w W2:=by rw [hW2]; exact below_drewN (k1.alloc z1 _) _
                have own2 : OwnE 2 encElement 107 W2 w.heap.size R c out:=by rw [hW2]; exact Own.below own1 (below_drewN ((Below.refl _ _).alloc (Nat.le_refl _) _) _)
                have hb0 : W2.cell? ⟨w1.heap.size,0,none⟩ = some (.string x):=by rw [hW2]; exact hb0
                have hb1 : W2.cell? ⟨w1.heap.size,1,none⟩ = some (.string y):=by rw [hW2]; exact hb1
                have z2 : w1.heap.size < W2.heap.size:=by rw [hW2]; show w1.heap.size < (w1.alloc (.cells #[.string x,.string y] 107)).heap.size; simp
                rw [← hW2];clear hW2
                go_wp2_with (at_builtin; refine wpList_app rfl (.tmp 104) (.tmp 106) _ rfl w.heap.size 107 _ 2 32 Tryz.underlying103 info_Element rfl (by omega) R (some ⟨W2.heap.size,0,none⟩) out.length c 1 1 (W2.heap.size + 1) (cE 2 encElement out) (encElement (x,y)) rfl rfl (Own.below own2 ((Below.refl _ _).alloc (Nat.le_refl _) _)) (rd_elem _ _ _ _ (fun j hj => by rcases (by omega : j = 0 ∨ j = 1) with rfl | rfl <;> rfl)) (fun _ _ => encElement_one _ _) (by simp only [maxLen]; omega) (by omega) (by first | omega | (simp; done) | (simp; omega)) ?_; intro R2 c2 w3 own3 hg3)
                go_roundw
                case rel => exact ⟨r + 1,R2,c2,out ++ [(x,y)],by omega,by go_num,by rw [List.length_append]; rfl,by rw [List.length_append]; show out.length + 1 ≤ 8; omega,Lib.hid ⟨HP.out,fun e he => by
                 rcases List.mem_append.1 he with h | h
                 ·exact HI.out.2 e h
                 ·obtain rfl:=List.mem_singleton.1 h
                  exact ⟨hxz,hy80⟩⟩,OwnE.snoc (by omega) own3,k2.trans (((Below.refl _ _).alloc k2.size _).trans (grown_below hg3 (fun b hb => (Own.lt own2 hb).1) (by first | omega | (simp; done) | (simp; omega))))⟩
                case measure => first | (simp [intOf]; done) | (simp [intOf]; have:=HO.out; rw [HLL.out] at this; omega)
               ·have q1 : ((s.extract q (r + 1)).toList == (cls x).toList) = false:=ba_ne_list hc
                have q2 : ((s.extract q (r + 1)).toList != (cls x).toList) = true:=by unfold bne; rw [q1]; rfl
                have HQ:=Lib.hid (el_none (elP_bad HI.out.1 hlt (.inl (fun h => hc (hokd.1 h).2))));have HU:=Lib.hid hcu;clear hcu hokd
                go_wp2_with fail
                refine HU.out.mono ?_;rintro e w1 ⟨rfl,b1⟩;have own1:=Own.below hown b1;have k1:=hbl.trans (b1.mono hsz);have z1:=k1.size;have hb0 : (w1.alloc (.cells #[.string x,.string y] 107)).cell? ⟨w1.heap.size,0,none⟩ = some (.string x):=by rw [World.cell?_alloc_at _ _ _ _ rfl]; rfl
                have hb1 : (w1.alloc (.cells #[.string x,.string y] 107)).cell? ⟨w1.heap.size,1,none⟩ = some (.string y):=by rw [World.cell?_alloc_at _ _ _ _ rfl]; rfl
                go_wp2_with fail
                go_quiet (fail)
                obtain ⟨W2,hW2⟩ : ∃ W2,W2 = (w1.alloc (.cells #[.string x,.string y] 107)).drewN nq:=⟨_,rfl⟩;have k2 : Below w.heap.size w W2:=by rw [hW2]; exact below_drewN (k1.alloc z1 _) _
                have own2 : OwnE 2 encElement 107 W2 w.heap.size R c out:=by rw [hW2]; exact Own.below own1 (below_drewN ((Below.refl _ _).alloc (Nat.le_refl _) _) _)
                have hb0 : W2.cell? ⟨w1.heap.size,0,none⟩ = some (.string x):=by rw [hW2]; exact hb0
                have hb1 : W2.cell? ⟨w1.heap.size,1,none⟩ = some (.string y):=by rw [hW2]; exact hb1
                have z2 : w1.heap.size < W2.heap.size:=by rw [hW2]; show w1.heap.size < (w1.alloc (.cells #[.string x,.string y] 107)).heap.size; simp
                rw [← hW2];clear hW2
                go_wp2_with fail
                go_ret2;rw [HQ.out.1,HQ.out.2];exact ⟨_,_,rfl,own_e k2 (Nat.le_refl _),k2.alloc k2.size _⟩
            ·have e60 : (bb s a != 60) = true:=by simp [h60]
             have HQ:=Lib.hid (el_none (elP_bad HI.out.1 hlt (.inl (fun h => h60 h.1))));clear h60
             go_wp2_with fail
             go_ret2;rw [HQ.out.1,HQ.out.2];exact ⟨_,_,rfl,hE.1,hE.2⟩
           ·have rb : (bb s r != 62) = true:=by simp [rc]
            have rN:=Lib.hid (rK.out.trans (fb_step rl rc))
            go_wp2_with fail
            go_round
            case rel => exact ⟨r + 1,by omega,by omega,rN,by go_num⟩
            case measure => first | (simp [intOf]; done) | (simp [intOf]; omega)
          ·obtain rfl : r = s.size:=by omega
           have hbad : ¬ eOk s a:=fun h => by have:=h.2.1; rw [rK.out,fb_out (Nat.le_refl _)] at this; omega
           have HQ:=Lib.hid (el_none (elP_bad HI.out.1 hlt (.inl hbad)));clear hbad rK
           go_wp2_with fail
           go_ret2;rw [HQ.out.1,HQ.out.2];exact ⟨_,_,rfl,hE.1,hE.2⟩
        ·have qb : (bb s q != 60) = true:=by simp [qc]
         have qN:=Lib.hid (qK.out.trans (fb_step ql qc))
         go_wp2_with fail
         go_round
         case rel => exact ⟨q + 1,by omega,by omega,qN,by go_num⟩
         case measure => first | (simp [intOf]; done) | (simp [intOf]; omega)
       ·obtain rfl : q = s.size:=by omega
        have hbad : ¬ eOk s a:=fun h => by have:=h.2.1; have h2:=HO.out.2.2.1; rw [qK.out,fb_out (Nat.le_refl _)] at h2; omega
        have HQ:=Lib.hid (el_none (elP_bad HI.out.1 hlt (.inl hbad)));clear hbad qK
        go_wp2_with fail
        refine wp_loop_rounds 1 ?_;rw [rounds_succ]
        go_wp2_with fail
        go_ret2;rw [HQ.out.1,HQ.out.2];exact ⟨_,_,rfl,hE.1,hE.2⟩
     ·have nb : (bb s n != 62) = true:=by simp [nc]
      have nN:=Lib.hid (nK.out.trans (fb_step nl nc))
      go_wp2_with fail
      go_round
      case rel => exact ⟨n + 1,by omega,by omega,nN,by go_num⟩
      case measure => first | (simp [intOf]; done) | (simp [intOf]; omega)
    ·obtain rfl : n = s.size:=by omega
     have hbad : ¬ eOk s a:=fun h => by have:=h.2.1; have h2:=HO.out; rw [nK.out,fb_out (Nat.le_refl _)] at h2; omega
     have HQ:=Lib.hid (el_none (elP_bad HI.out.1 hlt (.inl hbad)));clear hbad nK
     go_wp2_with fail
     refine wp_loop_rounds 1 ?_;rw [rounds_succ]
     go_wp2_with fail
     refine wp_loop_rounds 1 ?_;rw [rounds_succ]
     go_wp2_with fail
     go_ret2;rw [HQ.out.1,HQ.out.2];exact ⟨_,_,rfl,hE.1,hE.2⟩
  ·obtain rfl : a = s.size:=by omega
   have hD:=elP_end HI.out.1;have hcall:=specElementsValid_any R c wr.heap.size out wr (OwnE.rd hown) (Nat.le_refl _) (by omega) (fun k hk => by have:=HI.out.2 _ (gt_mem hk); unfold maxLen; omega);cases hv : evB out
   ·rw [hv] at hcall
    rw [hv,if_neg (by simp)] at hD;have HQ:=Lib.hid (el_none hD);have HC:=Lib.hid hcall;clear hcall hD
    go_wp2_with fail
    refine HC.out.mono ?_;rintro e w1 ⟨rfl,b1⟩;have k1:=hbl.trans (b1.mono hsz)
    go_wp2_with fail
    go_ret2;rw [HQ.out.1,HQ.out.2];exact ⟨_,_,rfl,own_e k1 (Nat.le_refl _),k1.alloc k1.size _⟩
   ·rw [hv] at hcall
    rw [hv,if_pos rfl] at hD;have HQ:=Lib.hid (el_some hD);have HC:=Lib.hid hcall;clear hcall hD
    go_wp2_with fail
    refine HC.out.mono ?_;rintro e w1 ⟨rfl,b1⟩;have k1:=hbl.trans (b1.mono hsz);have own1:=Own.below hown b1
    go_wp2_with fail
    go_ret2;rw [HQ.out.1,HQ.out.2];exact ⟨R,c,rfl,own1,k1⟩
def isE (nm : ByteArray) (e : ElElement) : Bool:=seq e.1 nm
def etI (xs : List ElElement) (nm : ByteArray) : Int:=ix (isE nm) xs
def etOf (xs : List ElElement) (nm : ByteArray) : ByteArray:=if evB xs = true ∧ 0 ≤ etI xs nm then (gt xs (etI xs nm).toNat).2 else { data:=#[] }
def etOk (xs : List ElElement) (nm : ByteArray) : Bool:=evB xs && decide (0 ≤ etI xs nm)
theorem et_at {xs : List ElElement} {nm : ByteArray} {k : Nat} (hv : evB xs = true) (hk : k < xs.length) (h1 : ∀ j,j < k → isE nm (gt xs j) = false) (h2 : isE nm (gt xs k) = true) : etOf xs nm = (gt xs k).2 ∧ etOk xs nm = true:=by
 have e : etI xs nm = k:=ix_at hk h1 h2;unfold etOf etOk;rw [e,hv,if_pos ⟨rfl,by omega⟩,Int.toNat_natCast];exact ⟨rfl,by simp⟩
theorem et_none {xs : List ElElement} {nm : ByteArray} (h1 : ∀ j,j < xs.length → isE nm (gt xs j) = false) : etOf xs nm = { data:=#[] } ∧ etOk xs nm = false:=by
 have e : etI xs nm = -1:=ix_none h1;unfold etOf etOk;rw [e,if_neg (by omega)];exact ⟨rfl,by simp⟩
theorem et_bad {xs : List ElElement} {nm : ByteArray} (hv : evB xs = false) : etOf xs nm = { data:=#[] } ∧ etOk xs nm = false:=by
 unfold etOf etOk;rw [hv,if_neg (by simp)];exact ⟨rfl,rfl⟩
theorem etOf_text (xs : List ElElement) (nm : ByteArray) : textB (etOf xs nm) = true:=by
 unfold etOf
 split
 ·next h =>
  have hhi : etI xs nm < xs.length:=ix_hi;have:=(evB_at h.1).2 (etI xs nm).toNat (by omega);unfold eB at this;rw [Bool.and_eq_true] at this;exact this.2
 ·exact textB_true text_empty
theorem etOf_size (xs : List ElElement) (nm : ByteArray) : (etOf xs nm).size ≤ 80:=(Text.of (etOf_text xs nm)).1
def tnTo (xs : List ElElement) (nm : ByteArray) : Nat → Nat
 | 0 => 0
 | k + 1 => tnTo xs nm k + (if isE nm (gt xs k) = true then 1 else 0)
def tnOf (xs : List ElElement) (nm : ByteArray) : Nat:=tnTo xs nm xs.length
theorem tnTo_le (xs : List ElElement) (nm : ByteArray) (k : Nat) : tnTo xs nm k ≤ k:=by
 induction k with
 | zero => exact Nat.le_refl _
 | succ k ih => rw [tnTo]; split <;> omega
theorem tnTo_yes {xs : List ElElement} {nm : ByteArray} {k : Nat} (h : isE nm (gt xs k) = true) : tnTo xs nm (k + 1) = tnTo xs nm k + 1:=by rw [tnTo,if_pos h]
theorem tnTo_no {xs : List ElElement} {nm : ByteArray} {k : Nat} (h : isE nm (gt xs k) = false) : tnTo xs nm (k + 1) = tnTo xs nm k:=by rw [tnTo,if_neg (by rw [h]; simp)]; rfl
set_option maxHeartbeats 800000 in
theorem timesNamed_any (A : Option Addr) (cap B : Nat) (xs : List ElElement) (nm : ByteArray) (w : World) (h : RdE 2 encElement w B A xs) (hB : B ≤ w.heap.size) (hl : xs.length ≤ 140737488351232) : Calls Tryz.prog 130 #[.slice A xs.length cap,.string nm] w fun e w' => e = .returned (.int .i64 (tnOf xs nm)) ∧ Below w.heap.size w w':=by
 go_enter Tryz.func130,Tryz.ntmps130
 go_wp2_with fail
 go_loopw [5,10] (fun n i wr => ∃ k : Nat,k ≤ xs.length ∧ n = .int .i64 (tnTo xs nm k) ∧ i = .int .i64 k ∧ Below w.heap.size w wr) (fun _ i _ => xs.length - (intOf i).toNat)
 case atStart => exact ⟨0,Nat.zero_le _,rfl,rfl,Below.refl _ _⟩
 case round =>
  obtain ⟨k,hk,rfl,rfl,hbl⟩:=hrel;have hsw:=hbl.size;have htl:=tnTo_le xs nm k;by_cases hlt : k < xs.length
  ·skip
   obtain ⟨b,off,rfl,hb,hc⟩:=(h.below (hbl.mono hB)).at_ (by omega);have c0 : wr.cell? ⟨b,off + k * 2,none⟩ = some (Value.string (gt xs k).1):=hc k 0 (by omega) (by omega);have c1 : wr.cell? ⟨b,off + k * 2 + 1,none⟩ = some (Value.string (gt xs k).2):=hc k 1 (by omega) (by omega);have e0 : (wr.alloc (.cells #[.string (gt xs k).1,.string (gt xs k).2] 107)).cell? ⟨wr.heap.size,0,none⟩ = some (Value.string (gt xs k).1):=by rw [World.cell?_alloc_at _ _ _ _ rfl]; rfl
   have e1 : (wr.alloc (.cells #[.string (gt xs k).1,.string (gt xs k).2] 107)).cell? ⟨wr.heap.size,1,none⟩ = some (Value.string (gt xs k).2):=by rw [World.cell?_alloc_at _ _ _ _ rfl]; rfl
   clear hc;by_cases hq : isE nm (gt xs k) = true
   ·have q0 : ((gt xs k).1.toList == nm.toList) = true:=by rw [seq_eql]; exact hq
    have HN:=Lib.hid (tnTo_yes hq);clear hq
    go_wp2_with fail
    go_roundw
    case rel => exact ⟨k + 1,by omega,by rw [HN.out]; go_num,by go_num,hbl.alloc hsw _⟩
    case measure => simp [intOf]; omega
   ·have hq' : isE nm (gt xs k) = false:=by simpa using hq
    have q0 : ((gt xs k).1.toList == nm.toList) = false:=by rw [seq_eql]; exact hq'
    have HN:=Lib.hid (tnTo_no hq');clear hq hq'
    go_wp2_with fail
    go_roundw
    case rel => exact ⟨k + 1,by omega,by rw [HN.out],by go_num,hbl.alloc hsw _⟩
    case measure => simp [intOf]; omega
  ·obtain rfl : k = xs.length:=by omega
   go_wp2_with fail
   go_ret;exact ⟨rfl,hbl⟩
set_option maxHeartbeats 800000 in
theorem implElementText_any (A : Option Addr) (cap B : Nat) (xs : List ElElement) (nm : ByteArray) (w : World) (h : RdE 2 encElement w B A xs) (hB : B ≤ w.heap.size) (hl : xs.length ≤ 140737488351232) (hsz : ∀ k,k < xs.length → (gt xs k).1.size ≤ maxLen ∧ (gt xs k).2.size ≤ maxLen) : Calls Tryz.prog 131 #[.slice A xs.length cap,.string nm] w fun e w' => e = .returned (.tuple #[.string (etOf xs nm),.bool (etOk xs nm)]) ∧ Below w.heap.size w w':=by
 have HD:=Lib.hid hsz;clear hsz;cases hv : evB xs
 ·have HV:=Lib.hid hv
  have HQ:=Lib.hid (et_bad (nm:=nm) hv);clear hv;go_enter Tryz.func131,Tryz.ntmps131
  go_wp2_with fail
  refine (implElementsValid_any A cap B xs w h hB hl HD.out).mono ?_;rintro e w1 ⟨rfl,b1⟩;rw [HV.out]
  go_wp2_with fail
  go_ret2;exact ⟨by rw [HQ.out.1,HQ.out.2]; rfl,b1⟩
 ·have HV:=Lib.hid hv
  clear hv;go_enter Tryz.func131,Tryz.ntmps131
  go_wp2_with fail
  refine (implElementsValid_any A cap B xs w h hB hl HD.out).mono ?_;rintro e w1 ⟨rfl,b1⟩;rw [HV.out]
  go_wp2_with fail
  go_loopw [13] (fun i wr => ∃ k : Nat,k ≤ xs.length ∧ Hid (∀ j,j < k → isE nm (gt xs j) = false) ∧ i = .int .i64 k ∧ Below w.heap.size w wr) (fun i _ => xs.length - (intOf i).toNat)
  case atStart => exact ⟨0,Nat.zero_le _,Lib.hid (fun j hj => absurd hj (by omega)),rfl,b1⟩
  case round =>
   clear b1;obtain ⟨k,hk,hno,rfl,hbl⟩:=hrel;have hsw:=hbl.size;by_cases hlt : k < xs.length
   ·skip
    obtain ⟨b,off,rfl,hb,hc⟩:=(h.below (hbl.mono hB)).at_ (by omega);have c0 : wr.cell? ⟨b,off + k * 2,none⟩ = some (Value.string (gt xs k).1):=hc k 0 (by omega) (by omega);have c1 : wr.cell? ⟨b,off + k * 2 + 1,none⟩ = some (Value.string (gt xs k).2):=hc k 1 (by omega) (by omega);have e0 : (wr.alloc (.cells #[.string (gt xs k).1,.string (gt xs k).2] 107)).cell? ⟨wr.heap.size,0,none⟩ = some (Value.string (gt xs k).1):=by rw [World.cell?_alloc_at _ _ _ _ rfl]; rfl
    have e1 : (wr.alloc (.cells #[.string (gt xs k).1,.string (gt xs k).2] 107)).cell? ⟨wr.heap.size,1,none⟩ = some (Value.string (gt xs k).2):=by rw [World.cell?_alloc_at _ _ _ _ rfl]; rfl
    clear hc;by_cases hq : isE nm (gt xs k) = true
    ·have q0 : ((gt xs k).1.toList == nm.toList) = true:=by rw [seq_eql]; exact hq
     have HQ:=Lib.hid (et_at HV.out hlt hno.out hq);clear hq
     go_wp2_with fail
     go_ret2;exact ⟨by rw [HQ.out.1,HQ.out.2]; rfl,hbl.alloc hsw _⟩
    ·have hq' : isE nm (gt xs k) = false:=by simpa using hq
     have q0 : ((gt xs k).1.toList == nm.toList) = false:=by rw [seq_eql]; exact hq'
     clear hq
     go_wp2_with fail
     go_roundw
     case rel => exact ⟨k + 1,by omega,Lib.hid (fun j hj => by
         rcases Nat.lt_succ_iff_lt_or_eq.1 hj with h1 | rfl
         ·exact hno.out j h1
         ·exact hq'),by go_num,hbl.alloc hsw _⟩
     case measure => simp [intOf]; omega
   ·obtain rfl : k = xs.length:=by omega
    have HQ:=Lib.hid (et_none hno.out)
    go_wp2_with fail
    go_ret2;exact ⟨by rw [HQ.out.1,HQ.out.2]; rfl,hbl⟩
set_option maxHeartbeats 800000 in
theorem specElementText_any (A : Option Addr) (cap B : Nat) (xs : List ElElement) (nm : ByteArray) (w : World) (h : RdE 2 encElement w B A xs) (hB : B ≤ w.heap.size) (hl : xs.length ≤ 140737488351232) (hsz : ∀ k,k < xs.length → (gt xs k).1.size ≤ maxLen ∧ (gt xs k).2.size ≤ maxLen) : Calls Tryz.prog 84 #[.slice A xs.length cap,.string nm] w fun e w' => e = .returned (.tuple #[.string (etOf xs nm),.bool (etOk xs nm)]) ∧ Below w.heap.size w w':=by
 have HD:=Lib.hid hsz;clear hsz;cases hv : evB xs
 ·have HV:=Lib.hid hv
  have HQ:=Lib.hid (et_bad (nm:=nm) hv);clear hv;by_cases hp : 0 < xs.length
  ·have d1 : decide ((0 : Int) < (xs.length : Int)) = true:=decide_eq_true (by omega)
   have d2 : decide (0 < xs.length) = true:=decide_eq_true hp;go_enter Tryz.func84,Tryz.ntmps84
   go_wp2_with fail
   refine wp_loop_rounds 1 ?_;rw [rounds_succ]
   go_wp2_with fail
   refine (specElementsValid_any A cap B xs w h hB hl HD.out).mono ?_;rintro e w1 ⟨rfl,b1⟩;rw [HV.out]
   go_wp2_with fail
   go_ret2;exact ⟨by rw [HQ.out.1,HQ.out.2]; rfl,b1⟩
  ·have d1 : decide ((0 : Int) < (xs.length : Int)) = false:=decide_eq_false (by omega)
   have d2 : decide (0 < xs.length) = false:=decide_eq_false hp;go_enter Tryz.func84,Tryz.ntmps84
   go_wp2_with fail
   refine wp_loop_rounds 1 ?_;rw [rounds_succ]
   go_wp2_with fail
   go_ret2;exact ⟨by rw [HQ.out.1,HQ.out.2]; rfl,Below.refl _ _⟩
 ·have HV:=Lib.hid hv
  clear hv;go_enter Tryz.func84,Tryz.ntmps84
  go_wp2_with fail
  go_loopw [6] (fun i wr => ∃ k : Nat,k ≤ xs.length ∧ Hid (∀ j,j < k → isE nm (gt xs j) = false) ∧ i = .int .i64 k ∧ Below w.heap.size w wr) (fun i _ => xs.length - (intOf i).toNat)
  case atStart => exact ⟨0,Nat.zero_le _,Lib.hid (fun j hj => absurd hj (by omega)),rfl,Below.refl _ _⟩
  case round =>
   obtain ⟨k,hk,hno,rfl,hbl⟩:=hrel;have hsw:=hbl.size;by_cases hlt : k < xs.length
   ·skip
    have hlti : (k : Int) < (xs.length : Int):=by omega
    go_wp2_with fail
    refine (specElementsValid_any A cap B xs wr (h.below (hbl.mono hB)) (Nat.le_trans hB hsw) hl HD.out).mono ?_;rintro e w1 ⟨rfl,b1⟩;rw [HV.out];obtain ⟨wo,rfl⟩ : ∃ wo : World,wo = wr:=⟨_,rfl⟩;replace hbl:=hbl.trans (b1.mono hsw);obtain ⟨wr,rfl⟩ : ∃ wr : World,wr = w1:=⟨_,rfl⟩;obtain ⟨b,off,rfl,hb,hc⟩:=(h.below (hbl.mono hB)).at_ (by omega);have c0 : wr.cell? ⟨b,off + k * 2,none⟩ = some (Value.string (gt xs k).1):=hc k 0 (by omega) (by omega);have c1 : wr.cell? ⟨b,off + k * 2 + 1,none⟩ = some (Value.string (gt xs k).2):=hc k 1 (by omega) (by omega);clear hc;by_cases hq : isE nm (gt xs k) = true
    ·have q0 : ((gt xs k).1.toList == nm.toList) = true:=by rw [seq_eql]; exact hq
     have HQ:=Lib.hid (et_at HV.out hlt hno.out hq);clear hq
     go_wp2_with fail
     go_ret2;exact ⟨by rw [HQ.out.1,HQ.out.2]; rfl,hbl⟩
    ·have hq' : isE nm (gt xs k) = false:=by simpa using hq
     have q0 : ((gt xs k).1.toList == nm.toList) = false:=by rw [seq_eql]; exact hq'
     clear hq
     go_wp2_with fail
     go_roundw
     case rel => exact ⟨k + 1,by omega,Lib.hid (fun j hj => by
         rcases Nat.lt_succ_iff_lt_or_eq.1 hj with h1 | rfl
         ·exact hno.out j h1
         ·exact hq'),by go_num,hbl⟩
     case measure => simp [intOf]; omega
   ·obtain rfl : k = xs.length:=by omega
    have HQ:=Lib.hid (et_none hno.out)
    go_wp2_with fail
    go_ret2;exact ⟨by rw [HQ.out.1,HQ.out.2]; rfl,hbl⟩
def dB (y : Int) : Int:=365 * (y - 1) + (y - 1) / 4 - (y - 1) / 100 + (y - 1) / 400
def leapB (y : Int) : Bool:=decide (y % 400 = 0) || (decide (y % 4 = 0) && !decide (y % 100 = 0))
def mdOf (y m : Int) : Int:=if m = 2 then (if leapB y = true then 29 else 28) else if m = 4 ∨ m = 6 ∨ m = 9 ∨ m = 11 then 30 else 31
def restM (y : Int) : Nat → Int
 | 0 => 0
 | n + 1 => mdOf y (12 - n) + restM y n
theorem restM_succ (y : Int) (n : Nat) : restM y (n + 1) = mdOf y (12 - n) + restM y n:=rfl
def cumM (y : Int) : Nat → Int
 | 0 => 0
 | n + 1 => cumM y n + mdOf y (n + 1)
theorem cumM_succ (y : Int) (n : Nat) : cumM y (n + 1) = cumM y n + mdOf y (n + 1):=rfl
theorem mdOf_bounds (y m : Int) : 28 ≤ mdOf y m ∧ mdOf y m ≤ 31:=by
 unfold mdOf
 split
 ·split <;> omega
 ·split <;> omega
theorem restM_full (y : Int) : restM y 12 = if leapB y = true then 366 else 365:=by
 simp only [restM,mdOf];cases leapB y <;> simp
theorem dB_succ {y : Int} : dB (y + 1) = dB y + restM y 12:=by
 rw [restM_full];unfold dB leapB;by_cases a : y % 400 = 0
 ·simp only [a,decide_true,Bool.true_or,if_true]; omega
 ·by_cases b : y % 4 = 0
  ·by_cases c : y % 100 = 0
   ·simp only [a,b,c,decide_true,decide_false,Bool.false_or,Bool.not_true,Bool.and_false,Bool.false_eq_true,if_false]; omega
   ·simp only [a,b,c,decide_true,decide_false,Bool.false_or,Bool.not_false,Bool.and_true,if_true]; omega
  ·simp only [a,b,decide_false,Bool.false_or,Bool.false_and,Bool.false_eq_true,if_false]; omega
theorem dB_le {y : Int} (h : 1 ≤ y) : dB y ≤ 366 * (y - 1):=by unfold dB; omega
theorem dB_ge {y : Int} (h : 1 ≤ y) : 365 * (y - 1) ≤ dB y:=by unfold dB; omega
theorem dB_last : dB 4001 = 1460970:=by decide
theorem daysBefore_any (y : Int) (w : World) (h1 : 1 ≤ y) (h2 : y ≤ 4001) : Calls Tryz.prog 163 #[.int .i64 y] w fun e w' => e = .returned (.int .i64 (dB y)) ∧ w = w':=by
 go_enter Tryz.func163,Tryz.ntmps163
 go_wp2
 go_ret;exact ⟨rfl,rfl⟩
theorem implLeapYear_any (y : Int) (w : World) (h1 : 1 ≤ y) (h2 : y ≤ 4000) : Calls Tryz.prog 176 #[.int .i64 y] w fun e w' => e = .returned (.bool (leapB y)) ∧ w = w':=by
 have hw:=inB_true (lo:=1) (hi:=4000) h1 h2;go_enter Tryz.func176,Tryz.ntmps176
 go_wp2_with fail
 refine (within_any _ _ _ w).mono ?_;rintro e w' ⟨rfl,rfl⟩;rw [hw];by_cases a : y % 400 = 0
 ·by_cases b : y % 4 = 0
  ·by_cases c : y % 100 = 0
   ·have a1 : (y % 400 == 0) = true:=beq_iff_eq.2 a
    have b1 : (y % 4 == 0) = true:=beq_iff_eq.2 b;have c1 : (y % 100 != 0) = false:=by simp [c]
    have HL : Hid (leapB y = true):=Lib.hid (by simp [leapB,a,b,c]);clear a b c
    go_wp2
    go_ret;exact ⟨ret_bool (by simp [HL.out, *]),rfl⟩
   ·omega
  ·omega
 ·have a1 : (y % 400 == 0) = false:=beq_eq_false_iff_ne.2 a
  by_cases b : y % 4 = 0
  ·have b1 : (y % 4 == 0) = true:=beq_iff_eq.2 b
   by_cases c : y % 100 = 0
   ·have c1 : (y % 100 != 0) = false:=by simp [c]
    have HL : Hid (leapB y = false):=Lib.hid (by simp [leapB,a,b,c]);clear a b c
    go_wp2
    go_ret;exact ⟨ret_bool (by simp [HL.out, *]),rfl⟩
   ·have c1 : (y % 100 != 0) = true:=by simp [c]
    have HL : Hid (leapB y = true):=Lib.hid (by simp [leapB,a,b,c]);clear a b c
    go_wp2
    go_ret;exact ⟨ret_bool (by simp [HL.out, *]),rfl⟩
  ·have b1 : (y % 4 == 0) = false:=beq_eq_false_iff_ne.2 b
   have HL : Hid (leapB y = false):=Lib.hid (by simp [leapB,a,b]);clear a b
   go_wp2
   go_ret;exact ⟨ret_bool (by simp [HL.out, *]),rfl⟩
theorem implMonthDays_any (y m : Int) (w : World) (h1 : 1 ≤ y) (h2 : y ≤ 4000) (h3 : 1 ≤ m) (h4 : m ≤ 12) : Calls Tryz.prog 164 #[.int .i64 y,.int .i64 m] w fun e w' => e = .returned (.int .i64 (mdOf y m)) ∧ w = w':=by
 have hw:=inB_true (lo:=1) (hi:=4000) h1 h2;have HW:=Lib.hid hw;clear hw;rcases (by omega : m = 1 ∨ m = 2 ∨ m = 3 ∨ m = 4 ∨ m = 5 ∨ m = 6 ∨ m = 7 ∨ m = 8 ∨ m = 9 ∨ m = 10 ∨ m = 11 ∨ m = 12) with rfl | rfl | rfl | rfl | rfl | rfl | rfl | rfl | rfl | rfl | rfl | rfl
 ·go_enter Tryz.func164,Tryz.ntmps164
  go_wp2_with fail
  refine (within_any _ _ _ w).mono ?_;rintro e w' ⟨rfl,rfl⟩;rw [HW.out]
  go_wp2_with fail
  refine (within_any _ _ _ w).mono ?_;rintro e w' ⟨rfl,rfl⟩;rw [show inB 1 1 12 = true from rfl]
  go_wp2_with fail
  go_ret;exact ⟨rfl,rfl⟩
 ·go_enter Tryz.func164,Tryz.ntmps164
  go_wp2_with fail
  refine (within_any _ _ _ w).mono ?_;rintro e w' ⟨rfl,rfl⟩;rw [HW.out]
  go_wp2_with fail
  refine (within_any _ _ _ w).mono ?_;rintro e w' ⟨rfl,rfl⟩;rw [show inB 2 1 12 = true from rfl];cases hl : leapB y
  ·have HM : Hid (mdOf y 2 = 28):=Lib.hid (by simp [mdOf,hl])
   have HL:=Lib.hid hl;clear hl
   go_wp2_with fail
   refine (implLeapYear_any y w h1 h2).mono ?_;rintro e w' ⟨rfl,rfl⟩;rw [HL.out]
   go_wp2_with fail
   go_ret;rw [HM.out];exact ⟨rfl,rfl⟩
  ·have HM : Hid (mdOf y 2 = 29):=Lib.hid (by simp [mdOf,hl])
   have HL:=Lib.hid hl;clear hl
   go_wp2_with fail
   refine (implLeapYear_any y w h1 h2).mono ?_;rintro e w' ⟨rfl,rfl⟩;rw [HL.out]
   go_wp2_with fail
   go_ret;rw [HM.out];exact ⟨rfl,rfl⟩
 ·go_enter Tryz.func164,Tryz.ntmps164
  go_wp2_with fail
  refine (within_any _ _ _ w).mono ?_;rintro e w' ⟨rfl,rfl⟩;rw [HW.out]
  go_wp2_with fail
  refine (within_any _ _ _ w).mono ?_;rintro e w' ⟨rfl,rfl⟩;rw [show inB 3 1 12 = true from rfl]
  go_wp2_with fail
  go_ret;exact ⟨rfl,rfl⟩
 ·go_enter Tryz.func164,Tryz.ntmps164
  go_wp2_with fail
  refine (within_any _ _ _ w).mono ?_;rintro e w' ⟨rfl,rfl⟩;rw [HW.out]
  go_wp2_with fail
  refine (within_any _ _ _ w).mono ?_;rintro e w' ⟨rfl,rfl⟩;rw [show inB 4 1 12 = true from rfl]
  go_wp2_with fail
  go_ret;exact ⟨rfl,rfl⟩
 ·go_enter Tryz.func164,Tryz.ntmps164
  go_wp2_with fail
  refine (within_any _ _ _ w).mono ?_;rintro e w' ⟨rfl,rfl⟩;rw [HW.out]
  go_wp2_with fail
  refine (within_any _ _ _ w).mono ?_;rintro e w' ⟨rfl,rfl⟩;rw [show inB 5 1 12 = true from rfl]
  go_wp2_with fail
  go_ret;exact ⟨rfl,rfl⟩
 ·go_enter Tryz.func164,Tryz.ntmps164
  go_wp2_with fail
  refine (within_any _ _ _ w).mono ?_;rintro e w' ⟨rfl,rfl⟩;rw [HW.out]
  go_wp2_with fail
  refine (within_any _ _ _ w).mono ?_;rintro e w' ⟨rfl,rfl⟩;rw [show inB 6 1 12 = true from rfl]
  go_wp2_with fail
  go_ret;exact ⟨rfl,rfl⟩
 ·go_enter Tryz.func164,Tryz.ntmps164
  go_wp2_with fail
  refine (within_any _ _ _ w).mono ?_;rintro e w' ⟨rfl,rfl⟩;rw [HW.out]
  go_wp2_with fail
  refine (within_any _ _ _ w).mono ?_;rintro e w' ⟨rfl,rfl⟩;rw [show inB 7 1 12 = true from rfl]
  go_wp2_with fail
  go_ret;exact ⟨rfl,rfl⟩
 ·go_enter Tryz.func164,Tryz.ntmps164
  go_wp2_with fail
  refine (within_any _ _ _ w).mono ?_;rintro e w' ⟨rfl,rfl⟩;rw [HW.out]
  go_wp2_with fail
  refine (within_any _ _ _ w).mono ?_;rintro e w' ⟨rfl,rfl⟩;rw [show inB 8 1 12 = true from rfl]
  go_wp2_with fail
  go_ret;exact ⟨rfl,rfl⟩
 ·go_enter Tryz.func164,Tryz.ntmps164
  go_wp2_with fail
  refine (within_any _ _ _ w).mono ?_;rintro e w' ⟨rfl,rfl⟩;rw [HW.out]
  go_wp2_with fail
  refine (within_any _ _ _ w).mono ?_;rintro e w' ⟨rfl,rfl⟩;rw [show inB 9 1 12 = true from rfl]
  go_wp2_with fail
  go_ret;exact ⟨rfl,rfl⟩
 ·go_enter Tryz.func164,Tryz.ntmps164
  go_wp2_with fail
  refine (within_any _ _ _ w).mono ?_;rintro e w' ⟨rfl,rfl⟩;rw [HW.out]
  go_wp2_with fail
  refine (within_any _ _ _ w).mono ?_;rintro e w' ⟨rfl,rfl⟩;rw [show inB 10 1 12 = true from rfl]
  go_wp2_with fail
  go_ret;exact ⟨rfl,rfl⟩
 ·go_enter Tryz.func164,Tryz.ntmps164
  go_wp2_with fail
  refine (within_any _ _ _ w).mono ?_;rintro e w' ⟨rfl,rfl⟩;rw [HW.out]
  go_wp2_with fail
  refine (within_any _ _ _ w).mono ?_;rintro e w' ⟨rfl,rfl⟩;rw [show inB 11 1 12 = true from rfl]
  go_wp2_with fail
  go_ret;exact ⟨rfl,rfl⟩
 ·go_enter Tryz.func164,Tryz.ntmps164
  go_wp2_with fail
  refine (within_any _ _ _ w).mono ?_;rintro e w' ⟨rfl,rfl⟩;rw [HW.out]
  go_wp2_with fail
  refine (within_any _ _ _ w).mono ?_;rintro e w' ⟨rfl,rfl⟩;rw [show inB 12 1 12 = true from rfl]
  go_wp2_with fail
  go_ret;exact ⟨rfl,rfl⟩
theorem info_u8d : (Tryz.prog.info? 5).map (fun i => (i.zero,i.size,i.bytes)) = some (some (.int .u8 0),1,1):=by kernel_rfl
def dgD (n j : Nat) : Int:=48 + ((n / 10 ^ j % 10 : Nat) : Int)
def pdF (n k c : Nat) (x : Nat) : Value:=.int .u8 (if k ≤ x + c then dgD n (k - 1 - x) else 0)
def pdL (n k : Nat) : List Int:=(List.range k).map (fun x => dgD n (k - 1 - x))
def padS (n k : Nat) : ByteArray:=(pdL n k).foldl (fun r x => r.push (UInt8.ofNat x.toNat)) ByteArray.empty
theorem fold_size (l : List Int) : ∀ s : ByteArray,(l.foldl (fun r x => r.push (UInt8.ofNat x.toNat)) s).size = s.size + l.length:=by
 induction l with
 | nil => intro s; simp
 | cons x l ih => intro s; rw [List.foldl_cons,ih,ByteArray.size_push,List.length_cons]; omega
theorem padS_size (n k : Nat) : (padS n k).size = k:=by unfold padS; rw [fold_size]; simp [pdL]
theorem convP (W : World) (b n k : Nat) (h : ∀ j,j < k → W.cell? ⟨b,j,none⟩ = some (pdF n k k j)) : (convert 40 9 (.slice (some ⟨b,0,none⟩) k k)).run Tryz.prog W = .ok (.string (padS n k)) W:=by
 rw [run_convert_bytes_string _ 40 9 5 _ _ _ Tryz.underlying40 Tryz.underlying5 Tryz.underlying9]
 have hl:=run_loadCells_list (P:=Tryz.prog) (w:=W) ⟨b,0,none⟩ ((pdL n k).map (Value.int .u8)) (fun j v hj => by
  have hj1 : j < k:=by
   rcases Nat.lt_or_ge j k with q | q
   ·exact q
   ·rw [List.getElem?_eq_none (by simpa [pdL] using q)] at hj; cases hj
  rw [List.getElem?_map,pdL,List.getElem?_map,List.getElem?_range hj1] at hj;simp only [Option.map_some,Option.some.injEq] at hj;subst hj;have:=h j hj1;have e : (⟨b,0,none⟩ : Addr).add j = ⟨b,0 + j,none⟩:=by unfold Addr.add; split <;> simp_all
  rw [e,Nat.zero_add,this,pdF,if_pos (by omega)])
 rw [List.length_map,show (pdL n k).length = k by simp [pdL]] at hl;rw [run_bytesToString W ⟨b,0,none⟩ k k (pdL n k) hl];rfl
theorem pdF_next {n k c x : Nat} (hc : c < k) (hx : x < k) : pdF n k (c + 1) x = if x = k - 1 - c then .int .u8 (dgD n c) else pdF n k c x:=by
 unfold pdF
 split
 ·next h =>
  split
  ·next e => rw [show k - 1 - x = c by omega]
  ·next e => rw [if_pos (by omega)]
 ·next h => rw [if_neg (by omega),if_neg (by omega)]
set_option maxHeartbeats 800000 in
theorem padded_any (n k : Nat) (w : World) (hk : 1 ≤ k) (hk4 : k ≤ 4) (hn : n ≤ 1000000) : Calls Tryz.prog 165 #[.int .i64 (n : Int),.int .i64 (k : Int)] w fun e w' => e = .returned (.string (padS n k)) ∧ Below w.heap.size w w':=by
 have hmk:=mk_run (P:=Tryz.prog) 40 5 (.int .u8 0) 1 1 Tryz.underlying40 info_u8d k (by omega) (by omega);simp only [Nat.mul_one] at hmk;have hst : Own (w.alloc (.cells (madeCells #[.int .u8 0] k) 5)) w.heap.size 5 1 (some ⟨w.heap.size,0,none⟩) k k (pdF n k 0) :=
  Own.lit w 5 1 k _ _ (by simp only [maxLen]; omega) (by rw [toList_madeCells_one,Nat.mul_one]; apply List.ext_getElem <;> simp [pdF] <;> omega)
 have hbl0 : Below w.heap.size w (w.alloc (.cells (madeCells #[.int .u8 0] k) 5)):=(Below.refl _ _).alloc (Nat.le_refl _) _;go_enter Tryz.func165,Tryz.ntmps165
 go_wp2_with fail
 go_loopw [0,6] (fun nv i wr => ∃ c : Nat,c ≤ k ∧ nv = .int .i64 ((n / 10 ^ c : Nat) : Int) ∧ i = .int .i64 ((k : Int) - 1 - (c : Int)) ∧ Own wr w.heap.size 5 1 (some ⟨w.heap.size,0,none⟩) k k (pdF n k c) ∧ Below w.heap.size w wr) (fun _ i _ => (intOf i + 1).toNat)
 case atStart => exact ⟨0,by omega,by simp,by simp,hst,hbl0⟩
 case round =>
  clear hst hbl0 hmk;obtain ⟨c,hc,rfl,rfl,hin,hbl⟩:=hrel;have hsw:=hbl.size;by_cases hlt : c < k
  ·obtain ⟨j,hj⟩ : ∃ j : Nat,(k : Int) - 1 - (c : Int) = (j : Int):=⟨k - 1 - c,by omega⟩
   have hm : n / 10 ^ c ≤ 1000000:=Nat.le_trans (Nat.div_le_self _ _) hn;have hnx : n / 10 ^ (c + 1) = n / 10 ^ c / 10:=by rw [Nat.pow_succ,Nat.div_div_eq_div_mul]
   have hdg : dgD n c = 48 + ((n / 10 ^ c : Nat) : Int) % 10:=by unfold dgD; omega
   have HN:=Lib.hid hnx;have HD:=Lib.hid hdg;clear hnx hdg;rw [hj];have hjk : j < k:=by omega
   have hcv:=hin.cell rfl (j:=j) (by omega);have hfv:=hin.frozen rfl j;have HJ:=Lib.hid (show j = k - 1 - c by omega);generalize hmm : n / 10 ^ c = m at *
   have HMM:=Lib.hid hmm;clear hmm;have hst':=hin.set rfl (j:=j) (.int .u8 (48 + (m : Int) % 10));have HS:=Lib.hid hst';have hd0 : (0 : Int) ≤ (j : Int):=by omega
   clear hst' hin
   go_wp2_with fail
   go_roundw
   case rel => exact ⟨c + 1,by omega,by rw [HN.out]; rfl,by congr 1; have:=HJ.out; omega,Own.congr HS.out.1 (fun x hx => by rw [pdF_next hlt (by omega),HD.out,HJ.out]),hbl.trans (grown_below HS.out.2 (fun b hb => by simp [blk] at hb; omega) hbl.size)⟩
   case measure => first | (simp [intOf]; done) | (simp [intOf]; omega)
  ·obtain rfl : c = k:=by omega
   rw [show (c : Int) - 1 - (c : Int) = -1 by omega];have hcv:=convP wr w.heap.size n c (fun j hj => hin.cell rfl (j:=j) (by omega))
   go_wp2_with fail
   go_ret;exact ⟨rfl,hbl⟩
def dayB (d : Int) : Bool:=decide (0 ≤ d) && decide (d < 1460970)
theorem dayB_yes {d : Int} (h0 : 0 ≤ d) (h1 : d < 1460970) : dayB d = true:=by simp [dayB,h0,h1]
theorem dayB_no {d : Int} (h : d < 0 ∨ 1460970 ≤ d) : dayB d = false:=by simp [dayB]; omega
def IsDay (d : Int) (s : ByteArray) : Prop:=s.size = if dayB d = true then 10 else 0
theorem restM_pos {y r : Int} {n : Nat} (h0 : 0 ≤ r) (h : r < restM y n) : 1 ≤ n:=by
 cases n with
 | zero => simp [restM] at h; omega
 | succ n => omega
set_option maxHeartbeats 800000 in
theorem implDateText_any (d : Int) (w : World) : Calls Tryz.prog 141 #[.int .i64 d] w fun e w' => (∃ s : ByteArray,e = .returned (.string s) ∧ IsDay d s) ∧ Below w.heap.size w w':=by
 have HLA:=Lib.hid dB_last;by_cases h0 : d < 0
 ·have hd0 : decide (d < 0) = true:=decide_eq_true h0
  have HN:=Lib.hid (dayB_no (.inl h0));go_enter Tryz.func141,Tryz.ntmps141
  go_wp2_with fail
  go_ret;exact ⟨⟨_,rfl,by unfold IsDay; rw [HN.out]; rfl⟩,Below.refl _ _⟩
 ·have hd0 : decide (d < 0) = false:=decide_eq_false h0
  by_cases h1 : d < 1460970
  ·have hd1 : decide (1460970 ≤ d) = false:=decide_eq_false (by omega)
   have HY:=Lib.hid (dayB_yes (by omega) h1);go_enter Tryz.func141,Tryz.ntmps141
   go_wp2_with fail
   refine (daysBefore_any 4001 w (by omega) (by omega)).mono ?_;rintro e w' ⟨rfl,rfl⟩;rw [HLA.out]
   go_wp2_with fail
   go_loopw [3] (fun i wr => ∃ y : Int,1 ≤ y ∧ y ≤ 4000 ∧ dB y ≤ d ∧ i = .int .i64 y ∧ w = wr) (fun i _ => (4001 - intOf i).toNat)
   case atStart => exact ⟨d / 366 + 1,by omega,by omega,by have:=dB_le (y:=d / 366 + 1) (by omega); omega,rfl,rfl⟩
   case round =>
    obtain ⟨y,hy1,hy2,hyd,rfl,rfl⟩:=hrel
    go_wp2_with fail
    refine (daysBefore_any (y + 1) w (by omega) (by omega)).mono ?_;rintro e w' ⟨rfl,rfl⟩;by_cases hc : dB (y + 1) ≤ d
    ·have hc0 : decide (dB (y + 1) ≤ d) = true:=decide_eq_true hc
     have hy3 : y < 4000:=by
      rcases Int.lt_or_le y 4000 with q | q
      ·exact q
      ·exfalso
       have e : y = 4000:=by omega
       subst e;have:=HLA.out;simp only [show (4000 : Int) + 1 = 4001 from rfl] at hc;omega
     go_wp2_with fail
     go_roundw
     case rel => exact ⟨y + 1,by omega,by omega,hc,by first | rfl | trivial,by first | rfl | trivial⟩
     case measure => simp [intOf]; omega
    ·have hc0 : decide (dB (y + 1) ≤ d) = false:=decide_eq_false hc
     have hr : d - dB y < restM y 12:=by have:=dB_succ (y:=y); omega
     have hge:=dB_ge hy1
     go_wp2_with fail
     refine (daysBefore_any y w hy1 (by omega)).mono ?_;rintro e w' ⟨rfl,rfl⟩;have hr0 : 0 ≤ d - dB y:=by omega
     have hrb : d - dB y ≤ 1460970:=by omega
     clear hc hc0
     go_wp2_with fail
     clear hyd hge;generalize d - dB y = r0 at *
     go_loopw [4,5] (fun rv i wr => ∃ (r : Int) (n : Nat),n ≤ 12 ∧ 0 ≤ r ∧ r ≤ 1460970 ∧ r < restM y n ∧ rv = .int .i64 r ∧ i = .int .i64 (13 - (n : Int)) ∧ w = wr) (fun _ i _ => (13 - intOf i).toNat)
     case atStart => exact ⟨r0,12,by omega,hr0,hrb,hr,rfl,rfl,rfl⟩
     case round =>
      clear hr hr0 hrb;obtain ⟨r,n,hn,hr0,hrb,hr,rfl,rfl,rfl⟩:=hrel;have hn1:=restM_pos hr0 hr;obtain ⟨n,rfl⟩ : ∃ k,n = k + 1:=⟨n - 1,by omega⟩;rw [restM_succ] at hr;have hmb:=mdOf_bounds y (12 - n);rw [show (13 : Int) - ((n + 1 : Nat) : Int) = 12 - (n : Int) by omega]
      go_wp2_with fail
      refine (implMonthDays_any y (12 - n) w hy1 hy2 (by omega) (by omega)).mono ?_;rintro e w' ⟨rfl,rfl⟩;by_cases hc : mdOf y (12 - n) ≤ r
      ·have hc0 : decide (mdOf y (12 - n) ≤ r) = true:=decide_eq_true hc
       go_wp2_with fail
       refine (implMonthDays_any y (12 - n) w hy1 hy2 (by omega) (by omega)).mono ?_;rintro e w' ⟨rfl,rfl⟩
       go_wp2_with fail
       go_roundw
       case rel => exact ⟨r - mdOf y (12 - n),n,by omega,by omega,by omega,by omega,by first | go_num | trivial,by first | go_num | trivial,by first | rfl | trivial⟩
       case measure => simp [intOf]; omega
      ·have hc0 : decide (mdOf y (12 - n) ≤ r) = false:=decide_eq_false hc
       obtain ⟨yn,rfl⟩:=Int.eq_ofNat_of_zero_le (show 0 ≤ y by omega);obtain ⟨m,hm⟩:=Int.eq_ofNat_of_zero_le (show 0 ≤ 12 - (n : Int) by omega);obtain ⟨rn,hrn⟩:=Int.eq_ofNat_of_zero_le (show 0 ≤ r + 1 by omega);rw [hm] at hc0 ⊢;have s1:=padS_size yn 4;have s2:=padS_size m 2;have s3:=padS_size rn 2
       go_wp2_with fail
       refine (padded_any yn 4 w (by omega) (by omega) (by omega)).mono ?_;rintro e w1 ⟨rfl,hb1⟩
       go_wp2_with fail
       refine (padded_any m 2 w1 (by omega) (by omega) (by omega)).mono ?_;rintro e w2 ⟨rfl,hb2⟩;have hbb:=hb1.trans (hb2.mono hb1.size)
       go_wp2_with fail
       refine (padded_any rn 2 w2 (by omega) (by omega) (by omega)).mono ?_;rintro e w3 ⟨rfl,hb3⟩
       go_wp2_with fail
       go_ret;exact ⟨⟨_,rfl,by unfold IsDay; rw [HY.out]; simp only [ByteArray.size_append,s1,s2,s3]; rfl⟩,hbb.trans (hb3.mono hbb.size)⟩
  ·have hd1 : decide (1460970 ≤ d) = true:=decide_eq_true (by omega)
   have HN:=Lib.hid (dayB_no (.inr (by omega : 1460970 ≤ d)));go_enter Tryz.func141,Tryz.ntmps141
   go_wp2_with fail
   refine (daysBefore_any 4001 w (by omega) (by omega)).mono ?_;rintro e w' ⟨rfl,rfl⟩;rw [HLA.out]
   go_wp2_with fail
   go_ret;exact ⟨⟨_,rfl,by unfold IsDay; rw [HN.out]; rfl⟩,Below.refl _ _⟩
theorem specLeapYear_any (y : Int) (w : World) (h1 : 1 ≤ y) (h2 : y ≤ 4000) : Calls Tryz.prog 169 #[.int .i64 y] w fun e w' => e = .returned (.bool (leapB y)) ∧ w = w':=by
 have hw:=inB_true (lo:=1) (hi:=4000) h1 h2;go_enter Tryz.func169,Tryz.ntmps169
 go_wp2_with fail
 refine (l1In_any _ _ _ w).mono ?_;rintro e w' ⟨rfl,rfl⟩;rw [hw];by_cases a : y % 400 = 0
 ·by_cases b : y % 4 = 0
  ·by_cases c : y % 100 = 0
   ·have a1 : (y % 400 == 0) = true:=beq_iff_eq.2 a
    have b1 : (y % 4 == 0) = true:=beq_iff_eq.2 b;have c1 : (y % 100 != 0) = false:=by simp [c]
    have HL : Hid (leapB y = true):=Lib.hid (by simp [leapB,a,b,c]);clear a b c
    go_wp2
    go_ret;exact ⟨ret_bool (by simp [HL.out, *]),rfl⟩
   ·omega
  ·omega
 ·have a1 : (y % 400 == 0) = false:=beq_eq_false_iff_ne.2 a
  by_cases b : y % 4 = 0
  ·have b1 : (y % 4 == 0) = true:=beq_iff_eq.2 b
   by_cases c : y % 100 = 0
   ·have c1 : (y % 100 != 0) = false:=by simp [c]
    have HL : Hid (leapB y = false):=Lib.hid (by simp [leapB,a,b,c]);clear a b c
    go_wp2
    go_ret;exact ⟨ret_bool (by simp [HL.out, *]),rfl⟩
   ·have c1 : (y % 100 != 0) = true:=by simp [c]
    have HL : Hid (leapB y = true):=Lib.hid (by simp [leapB,a,b,c]);clear a b c
    go_wp2
    go_ret;exact ⟨ret_bool (by simp [HL.out, *]),rfl⟩
  ·have b1 : (y % 4 == 0) = false:=beq_eq_false_iff_ne.2 b
   have HL : Hid (leapB y = false):=Lib.hid (by simp [leapB,a,b]);clear a b
   go_wp2
   go_ret;exact ⟨ret_bool (by simp [HL.out, *]),rfl⟩
end Go.Proofs.YtfnmlffpnmmcdaaGreatDoor
namespace Go.Proofs.YtfnmlffpnmmcdaaGreatDoor
set_option maxRecDepth 100000
open Go.RowKit
set_option maxHeartbeats 3200000 in
theorem specMonthDays_any (y m : Int) (w : World) (h1 : 1 ≤ y) (h2 : y ≤ 4000) (h3 : 1 ≤ m) (h4 : m ≤ 12) : Calls Tryz.prog 148 #[.int .i64 y,.int .i64 m] w fun e w' => e = .returned (.int .i64 (mdOf y m)) ∧ Below w.heap.size w w':=by
 have hw:=inB_true (lo:=1) (hi:=4000) h1 h2;have HW:=Lib.hid hw;clear hw;rcases (by omega : m = 1 ∨ m = 2 ∨ m = 3 ∨ m = 4 ∨ m = 5 ∨ m = 6 ∨ m = 7 ∨ m = 8 ∨ m = 9 ∨ m = 10 ∨ m = 11 ∨ m = 12) with rfl | rfl | rfl | rfl | rfl | rfl | rfl | rfl | rfl | rfl | rfl | rfl
 ·have hc : (w.alloc (.cells #[.int .i64 31,.int .i64 28,.int .i64 31,.int .i64 30,.int .i64 31,.int .i64 30,.int .i64 31,.int .i64 31,.int .i64 30,.int .i64 31,.int .i64 30,.int .i64 31] 3)).cell? ⟨w.heap.size,0,none⟩ = some (.int .i64 31):=by rw [World.cell?_alloc_at _ _ _ _ rfl]; rfl
  go_enter Tryz.func148,Tryz.ntmps148
  go_wp2_with fail
  refine (l1In_any _ _ _ w).mono ?_;rintro e w' ⟨rfl,rfl⟩;rw [HW.out]
  go_wp2_with fail
  refine (l1In_any _ _ _ w).mono ?_;rintro e w' ⟨rfl,rfl⟩;rw [show inB 1 1 12 = true from rfl]
  go_wp2_with fail
  go_ret;exact ⟨rfl,(Below.refl _ _).alloc (Nat.le_refl _) _⟩
 ·cases hl : leapB y
  ·have HM : Hid (mdOf y 2 = 28):=Lib.hid (by simp [mdOf,hl])
   have HL:=Lib.hid hl;clear hl;have hc : (w.alloc (.cells #[.int .i64 31,.int .i64 28,.int .i64 31,.int .i64 30,.int .i64 31,.int .i64 30,.int .i64 31,.int .i64 31,.int .i64 30,.int .i64 31,.int .i64 30,.int .i64 31] 3)).cell? ⟨w.heap.size,1,none⟩ = some (.int .i64 28):=by rw [World.cell?_alloc_at _ _ _ _ rfl]; rfl
   go_enter Tryz.func148,Tryz.ntmps148
   go_wp2_with fail
   refine (l1In_any _ _ _ w).mono ?_;rintro e w' ⟨rfl,rfl⟩;rw [HW.out]
   go_wp2_with fail
   refine (l1In_any _ _ _ w).mono ?_;rintro e w' ⟨rfl,rfl⟩;rw [show inB 2 1 12 = true from rfl]
   go_wp2_with fail
   refine (specLeapYear_any y w h1 h2).mono ?_;rintro e w' ⟨rfl,rfl⟩;rw [HL.out]
   go_wp2_with fail
   go_ret;rw [HM.out];exact ⟨rfl,(Below.refl _ _).alloc (Nat.le_refl _) _⟩
  ·have HM : Hid (mdOf y 2 = 29):=Lib.hid (by simp [mdOf,hl])
   have HL:=Lib.hid hl;clear hl;go_enter Tryz.func148,Tryz.ntmps148
   go_wp2_with fail
   refine (l1In_any _ _ _ w).mono ?_;rintro e w' ⟨rfl,rfl⟩;rw [HW.out]
   go_wp2_with fail
   refine (l1In_any _ _ _ w).mono ?_;rintro e w' ⟨rfl,rfl⟩;rw [show inB 2 1 12 = true from rfl]
   go_wp2_with fail
   refine (specLeapYear_any y w h1 h2).mono ?_;rintro e w' ⟨rfl,rfl⟩;rw [HL.out]
   go_wp2_with fail
   go_ret;rw [HM.out];exact ⟨rfl,Below.refl _ _⟩
 ·have hc : (w.alloc (.cells #[.int .i64 31,.int .i64 28,.int .i64 31,.int .i64 30,.int .i64 31,.int .i64 30,.int .i64 31,.int .i64 31,.int .i64 30,.int .i64 31,.int .i64 30,.int .i64 31] 3)).cell? ⟨w.heap.size,2,none⟩ = some (.int .i64 31):=by rw [World.cell?_alloc_at _ _ _ _ rfl]; rfl
  go_enter Tryz.func148,Tryz.ntmps148
  go_wp2_with fail
  refine (l1In_any _ _ _ w).mono ?_;rintro e w' ⟨rfl,rfl⟩;rw [HW.out]
  go_wp2_with fail
  refine (l1In_any _ _ _ w).mono ?_;rintro e w' ⟨rfl,rfl⟩;rw [show inB 3 1 12 = true from rfl]
  go_wp2_with fail
  go_ret;exact ⟨rfl,(Below.refl _ _).alloc (Nat.le_refl _) _⟩
 ·have hc : (w.alloc (.cells #[.int .i64 31,.int .i64 28,.int .i64 31,.int .i64 30,.int .i64 31,.int .i64 30,.int .i64 31,.int .i64 31,.int .i64 30,.int .i64 31,.int .i64 30,.int .i64 31] 3)).cell? ⟨w.heap.size,3,none⟩ = some (.int .i64 30):=by rw [World.cell?_alloc_at _ _ _ _ rfl]; rfl
  go_enter Tryz.func148,Tryz.ntmps148
  go_wp2_with fail
  refine (l1In_any _ _ _ w).mono ?_;rintro e w' ⟨rfl,rfl⟩;rw [HW.out]
  go_wp2_with fail
  refine (l1In_any _ _ _ w).mono ?_;rintro e w' ⟨rfl,rfl⟩;rw [show inB 4 1 12 = true from rfl]
  go_wp2_with fail
  go_ret;exact ⟨rfl,(Below.refl _ _).alloc (Nat.le_refl _) _⟩
 ·have hc : (w.alloc (.cells #[.int .i64 31,.int .i64 28,.int .i64 31,.int .i64 30,.int .i64 31,.int .i64 30,.int .i64 31,.int .i64 31,.int .i64 30,.int .i64 31,.int .i64 30,.int .i64 31] 3)).cell? ⟨w.heap.size,4,none⟩ = some (.int .i64 31):=by rw [World.cell?_alloc_at _ _ _ _ rfl]; rfl
  go_enter Tryz.func148,Tryz.ntmps148
  go_wp2_with fail
  refine (l1In_any _ _ _ w).mono ?_;rintro e w' ⟨rfl,rfl⟩;rw [HW.out]
  go_wp2_with fail
  refine (l1In_any _ _ _ w).mono ?_;rintro e w' ⟨rfl,rfl⟩;rw [show inB 5 1 12 = true from rfl]
  go_wp2_with fail
  go_ret;exact ⟨rfl,(Below.refl _ _).alloc (Nat.le_refl _) _⟩
 ·have hc : (w.alloc (.cells #[.int .i64 31,.int .i64 28,.int .i64 31,.int .i64 30,.int .i64 31,.int .i64 30,.int .i64 31,.int .i64 31,.int .i64 30,.int .i64 31,.int .i64 30,.int .i64 31] 3)).cell? ⟨w.heap.size,5,none⟩ = some (.int .i64 30):=by rw [World.cell?_alloc_at _ _ _ _ rfl]; rfl
  go_enter Tryz.func148,Tryz.ntmps148
  go_wp2_with fail
  refine (l1In_any _ _ _ w).mono ?_;rintro e w' ⟨rfl,rfl⟩;rw [HW.out]
  go_wp2_with fail
  refine (l1In_any _ _ _ w).mono ?_;rintro e w' ⟨rfl,rfl⟩;rw [show inB 6 1 12 = true from rfl]
  go_wp2_with fail
  go_ret;exact ⟨rfl,(Below.refl _ _).alloc (Nat.le_refl _) _⟩
 ·have hc : (w.alloc (.cells #[.int .i64 31,.int .i64 28,.int .i64 31,.int .i64 30,.int .i64 31,.int .i64 30,.int .i64 31,.int .i64 31,.int .i64 30,.int .i64 31,.int .i64 30,.int .i64 31] 3)).cell? ⟨w.heap.size,6,none⟩ = some (.int .i64 31):=by rw [World.cell?_alloc_at _ _ _ _ rfl]; rfl
  go_enter Tryz.func148,Tryz.ntmps148
  go_wp2_with fail
  refine (l1In_any _ _ _ w).mono ?_;rintro e w' ⟨rfl,rfl⟩;rw [HW.out]
  go_wp2_with fail
  refine (l1In_any _ _ _ w).mono ?_;rintro e w' ⟨rfl,rfl⟩;rw [show inB 7 1 12 = true from rfl]
  go_wp2_with fail
  go_ret;exact ⟨rfl,(Below.refl _ _).alloc (Nat.le_refl _) _⟩
 ·have hc : (w.alloc (.cells #[.int .i64 31,.int .i64 28,.int .i64 31,.int .i64 30,.int .i64 31,.int .i64 30,.int .i64 31,.int .i64 31,.int .i64 30,.int .i64 31,.int .i64 30,.int .i64 31] 3)).cell? ⟨w.heap.size,7,none⟩ = some (.int .i64 31):=by rw [World.cell?_alloc_at _ _ _ _ rfl]; rfl
  go_enter Tryz.func148,Tryz.ntmps148
  go_wp2_with fail
  refine (l1In_any _ _ _ w).mono ?_;rintro e w' ⟨rfl,rfl⟩;rw [HW.out]
  go_wp2_with fail
  refine (l1In_any _ _ _ w).mono ?_;rintro e w' ⟨rfl,rfl⟩;rw [show inB 8 1 12 = true from rfl]
  go_wp2_with fail
  go_ret;exact ⟨rfl,(Below.refl _ _).alloc (Nat.le_refl _) _⟩
 ·have hc : (w.alloc (.cells #[.int .i64 31,.int .i64 28,.int .i64 31,.int .i64 30,.int .i64 31,.int .i64 30,.int .i64 31,.int .i64 31,.int .i64 30,.int .i64 31,.int .i64 30,.int .i64 31] 3)).cell? ⟨w.heap.size,8,none⟩ = some (.int .i64 30):=by rw [World.cell?_alloc_at _ _ _ _ rfl]; rfl
  go_enter Tryz.func148,Tryz.ntmps148
  go_wp2_with fail
  refine (l1In_any _ _ _ w).mono ?_;rintro e w' ⟨rfl,rfl⟩;rw [HW.out]
  go_wp2_with fail
  refine (l1In_any _ _ _ w).mono ?_;rintro e w' ⟨rfl,rfl⟩;rw [show inB 9 1 12 = true from rfl]
  go_wp2_with fail
  go_ret;exact ⟨rfl,(Below.refl _ _).alloc (Nat.le_refl _) _⟩
 ·have hc : (w.alloc (.cells #[.int .i64 31,.int .i64 28,.int .i64 31,.int .i64 30,.int .i64 31,.int .i64 30,.int .i64 31,.int .i64 31,.int .i64 30,.int .i64 31,.int .i64 30,.int .i64 31] 3)).cell? ⟨w.heap.size,9,none⟩ = some (.int .i64 31):=by rw [World.cell?_alloc_at _ _ _ _ rfl]; rfl
  go_enter Tryz.func148,Tryz.ntmps148
  go_wp2_with fail
  refine (l1In_any _ _ _ w).mono ?_;rintro e w' ⟨rfl,rfl⟩;rw [HW.out]
  go_wp2_with fail
  refine (l1In_any _ _ _ w).mono ?_;rintro e w' ⟨rfl,rfl⟩;rw [show inB 10 1 12 = true from rfl]
  go_wp2_with fail
  go_ret;exact ⟨rfl,(Below.refl _ _).alloc (Nat.le_refl _) _⟩
 ·have hc : (w.alloc (.cells #[.int .i64 31,.int .i64 28,.int .i64 31,.int .i64 30,.int .i64 31,.int .i64 30,.int .i64 31,.int .i64 31,.int .i64 30,.int .i64 31,.int .i64 30,.int .i64 31] 3)).cell? ⟨w.heap.size,10,none⟩ = some (.int .i64 30):=by rw [World.cell?_alloc_at _ _ _ _ rfl]; rfl
  go_enter Tryz.func148,Tryz.ntmps148
  go_wp2_with fail
  refine (l1In_any _ _ _ w).mono ?_;rintro e w' ⟨rfl,rfl⟩;rw [HW.out]
  go_wp2_with fail
  refine (l1In_any _ _ _ w).mono ?_;rintro e w' ⟨rfl,rfl⟩;rw [show inB 11 1 12 = true from rfl]
  go_wp2_with fail
  go_ret;exact ⟨rfl,(Below.refl _ _).alloc (Nat.le_refl _) _⟩
 ·have hc : (w.alloc (.cells #[.int .i64 31,.int .i64 28,.int .i64 31,.int .i64 30,.int .i64 31,.int .i64 30,.int .i64 31,.int .i64 31,.int .i64 30,.int .i64 31,.int .i64 30,.int .i64 31] 3)).cell? ⟨w.heap.size,11,none⟩ = some (.int .i64 31):=by rw [World.cell?_alloc_at _ _ _ _ rfl]; rfl
  go_enter Tryz.func148,Tryz.ntmps148
  go_wp2_with fail
  refine (l1In_any _ _ _ w).mono ?_;rintro e w' ⟨rfl,rfl⟩;rw [HW.out]
  go_wp2_with fail
  refine (l1In_any _ _ _ w).mono ?_;rintro e w' ⟨rfl,rfl⟩;rw [show inB 12 1 12 = true from rfl]
  go_wp2_with fail
  go_ret;exact ⟨rfl,(Below.refl _ _).alloc (Nat.le_refl _) _⟩
theorem cumM_bounds (y : Int) (n : Nat) : 0 ≤ cumM y n ∧ cumM y n ≤ 31 * n:=by
 induction n with
 | zero => simp [cumM]
 | succ n ih => rw [cumM_succ]; have:=mdOf_bounds y (n + 1); omega
set_option maxHeartbeats 800000 in
theorem specDayNumber_any (y d : Int) (m : Nat) (w : World) (h1 : 1 ≤ y) (h2 : y ≤ 4000) (h3 : 1 ≤ m) (h4 : m ≤ 12) (h5 : 1 ≤ d) (h6 : d ≤ mdOf y m) : Calls Tryz.prog 122 #[.int .i64 y,.int .i64 (m : Int),.int .i64 d] w fun e w' => e = .returned (.int .i64 (dB y + d - 1 + cumM y (m - 1))) ∧ Below w.heap.size w w':=by
 have HD:=Lib.hid (inB_true h5 h6);have hmb:=mdOf_bounds y m;have hge:=dB_ge h1;have hle:=dB_le h1;go_enter Tryz.func122,Tryz.ntmps122
 go_wp2_with fail
 refine (specMonthDays_any y m w h1 h2 (by omega) (by omega)).mono ?_;rintro e w1 ⟨rfl,hb1⟩
 go_wp2_with fail
 refine (l1In_any _ _ _ w1).mono ?_;rintro e w' ⟨rfl,rfl⟩;rw [HD.out];have hd31 : d ≤ 31:=by omega
 clear h6
 go_wp2_with fail
 go_loopw [8,9] (fun nv i wr => ∃ j : Nat,j + 1 ≤ m ∧ nv = .int .i64 (dB y + d - 1 + cumM y j) ∧ i = .int .i64 ((j : Int) + 1) ∧ Below w.heap.size w wr) (fun _ i _ => (12 - intOf i).toNat)
 case atStart => exact ⟨0,by omega,by simp [cumM,dB],by simp,hb1⟩
 case round =>
  obtain ⟨j,hj,rfl,rfl,hbl⟩:=hrel;have hcb:=cumM_bounds y j;by_cases hlt : j + 1 < m
  ·have hd0 : decide ((j : Int) + 1 < (m : Int)) = true:=decide_eq_true (by omega)
   have hmj:=mdOf_bounds y ((j : Int) + 1)
   go_wp2_with fail
   refine (specMonthDays_any y ((j : Int) + 1) wr h1 h2 (by omega) (by omega)).mono ?_;rintro e w2 ⟨rfl,hb2⟩
   go_wp2_with fail
   go_roundw
   case rel => exact ⟨j + 1,by omega,by rw [cumM_succ]; congr 1; omega,by first | go_num | trivial,hbl.trans (hb2.mono hbl.size)⟩
   case measure => simp [intOf]; omega
  ·have hd0 : decide ((j : Int) + 1 < (m : Int)) = false:=decide_eq_false (by omega)
   obtain rfl : j = m - 1:=by omega
   go_wp2_with fail
   go_ret;exact ⟨rfl,hbl⟩
end Go.Proofs.YtfnmlffpnmmcdaaGreatDoor
namespace Go.Proofs.YtfnmlffpnmmcdaaGreatDoor
set_option maxRecDepth 100000
open Go.RowKit
theorem cumM_full (y : Int) : cumM y 12 = restM y 12:=by
 simp only [cumM,restM,mdOf];cases leapB y <;> simp
theorem conv_c (w : World) (c : Int) : (convert 40 9 (.slice (some ⟨w.heap.size,0,none⟩) 1 1)).run Tryz.prog (w.alloc (.cells #[.int .u8 c] 5)) = .ok (.string (ByteArray.empty.push (UInt8.ofNat c.toNat))) (w.alloc (.cells #[.int .u8 c] 5)):=by
 rw [run_convert_bytes_string _ 40 9 5 _ _ _ Tryz.underlying40 Tryz.underlying5 Tryz.underlying9]
 rw [run_bytesToString _ _ 1 1 [c] (run_loadCells_list _ _ [.int .u8 c] (fun j v hj => by
  match j,hj with
  | 0,hj =>
   simp only [List.getElem?_cons_zero,Option.some.injEq] at hj;subst hj
   show World.cell? _ ⟨w.heap.size,0,none⟩ = _
   rw [World.cell?_alloc_at _ _ _ _ rfl]; rfl))]
 rfl
theorem dayN_first (y : Int) (w : World) (h1 : 1 ≤ y) (h2 : y ≤ 4000) (j : Nat) (hj : j ≤ 11) : Calls Tryz.prog 122 #[.int .i64 y,.int .i64 ((j : Int) + 1),.int .i64 1] w fun e w' => e = .returned (.int .i64 (dB y + cumM y j)) ∧ Below w.heap.size w w':=by
 have h:=specDayNumber_any y 1 (j + 1) w h1 h2 (by omega) (by omega) (by omega) (by have:=mdOf_bounds y ((j + 1 : Nat) : Int); omega);rw [show dB y + 1 - 1 + cumM y (j + 1 - 1) = dB y + cumM y j by rw [Nat.add_sub_cancel]; omega] at h;exact h
theorem dayN_last (w : World) : Calls Tryz.prog 122 #[.int .i64 4000,.int .i64 12,.int .i64 31] w fun e w' => e = .returned (.int .i64 1460969) ∧ Below w.heap.size w w':=by
 have h:=specDayNumber_any 4000 31 12 w (by omega) (by omega) (by omega) (by omega) (by omega) (by decide);rw [show dB 4000 + 31 - 1 + cumM 4000 (12 - 1) = 1460969 by decide] at h;exact h
set_option maxHeartbeats 1600000 in
theorem specDateText_any (d : Int) (w : World) : Calls Tryz.prog 123 #[.int .i64 d] w fun e w' => (∃ s : ByteArray,e = .returned (.string s) ∧ IsDay d s) ∧ Below w.heap.size w w':=by
 have HLA:=Lib.hid dB_last;by_cases h0 : 0 ≤ d ∧ d < 1460970
 ·have HI:=Lib.hid (inB_true (n:=d) (lo:=0) (hi:=1460969) h0.1 (by omega))
  have HY:=Lib.hid (dayB_yes h0.1 h0.2);obtain ⟨h00,h01⟩:=h0;go_enter Tryz.func123,Tryz.ntmps123
  go_wp2_with fail
  refine (dayN_last w).mono ?_;rintro e w1 ⟨rfl,hb1⟩
  go_wp2_with fail
  refine (l1In_any _ _ _ w1).mono ?_;rintro e w' ⟨rfl,rfl⟩;rw [HI.out]
  go_wp2_with fail
  go_loopw [3] (fun i wr => ∃ y : Int,1 ≤ y ∧ y ≤ 4000 ∧ dB y ≤ d ∧ i = .int .i64 y ∧ Below w.heap.size w wr) (fun i _ => (4001 - intOf i).toNat)
  case atStart => exact ⟨d / 366 + 1,by omega,by omega,by have:=dB_le (y:=d / 366 + 1) (by omega); omega,rfl,hb1⟩
  case round =>
   clear hb1;obtain ⟨y,hy1,hy2,hyd,rfl,hbl⟩:=hrel;have hsw:=hbl.size;by_cases hex : y < 4000 ∧ dB (y + 1) ≤ d
   ·obtain ⟨hy4,hc⟩:=hex
    have d0 : decide (y < 4000) = true:=decide_eq_true hy4;have d1 : decide (dB (y + 1) ≤ d) = true:=decide_eq_true hc;have hcall:=dayN_first (y + 1) wr (by omega) (by omega) 0 (by omega);rw [show dB (y + 1) + cumM (y + 1) 0 = dB (y + 1) by simp [cumM]] at hcall;have HC:=Lib.hid hcall;clear hcall
    go_wp2_with fail
    refine HC.out.mono ?_;rintro e w2 ⟨rfl,hb2⟩
    go_wp2_with fail
    go_roundw
    case rel => exact ⟨y + 1,by omega,by omega,hc,by first | rfl | trivial,hbl.trans (hb2.mono hsw)⟩
    case measure => simp [intOf]; omega
   ·have hr : Hid (d < dB y + restM y 12):=Lib.hid (by
       rw [← dB_succ];by_cases h4 : y < 4000
       ·exact Int.not_le.1 (fun h => hex ⟨h4,h⟩)
       ·have e : y = 4000:=by omega
        subst e;have:=HLA.out
        show d < dB 4001
        omega)
    by_cases hy4 : y < 4000
    ·have d0 : decide (y < 4000) = true:=decide_eq_true hy4
     have d1 : decide (dB (y + 1) ≤ d) = false:=decide_eq_false (fun h => hex ⟨hy4,h⟩);have hcall:=dayN_first (y + 1) wr (by omega) (by omega) 0 (by omega);rw [show dB (y + 1) + cumM (y + 1) 0 = dB (y + 1) by simp [cumM]] at hcall;have HC:=Lib.hid hcall;clear hcall hex
     go_wp2_with fail
     refine HC.out.mono ?_;clear HC;rintro e w2 ⟨rfl,hb2⟩;have hbl2:=hbl.trans (hb2.mono hsw);clear hbl hb2 hsw
     go_wp2_with fail
     go_loopw [4] (fun i wr => ∃ j : Nat,j ≤ 11 ∧ dB y + cumM y j ≤ d ∧ i = .int .i64 ((j : Int) + 1) ∧ Below w.heap.size w wr) (fun i _ => (13 - intOf i).toNat)
     case atStart => exact ⟨0,by omega,by simp [cumM]; exact hyd,by simp,hbl2⟩
     case round =>
      clear hbl2;obtain ⟨j,hj,hjd,rfl,hbl⟩:=hrel;have hsw:=hbl.size;have hge:=dB_ge hy1;have hcb:=cumM_bounds y j;by_cases hex : j < 11 ∧ dB y + cumM y (j + 1) ≤ d
      ·obtain ⟨hj1,hc⟩:=hex
       have d0 : decide ((j : Int) + 1 < 12) = true:=decide_eq_true (by omega);have d1 : decide (dB y + cumM y (j + 1) ≤ d) = true:=decide_eq_true hc;have hcall:=dayN_first y wr hy1 hy2 (j + 1) (by omega);rw [show ((j + 1 : Nat) : Int) + 1 = (j : Int) + 1 + 1 by omega] at hcall;have HC:=Lib.hid hcall;clear hcall
       go_wp2_with fail
       refine HC.out.mono ?_;rintro e w3 ⟨rfl,hb3⟩
       go_wp2_with fail
       go_roundw
       case rel => exact ⟨j + 1,by omega,hc,by first | trivial | go_num,hbl.trans (hb3.mono hsw)⟩
       case measure => simp [intOf]; omega
      ·have hr2 : d - (dB y + cumM y j) < mdOf y ((j : Int) + 1):=by
          have hs:=cumM_succ y j;by_cases h11 : j < 11
          ·have : ¬ dB y + cumM y (j + 1) ≤ d:=fun h => hex ⟨h11,h⟩
           omega
          ·have e : j = 11:=by omega
           subst e;have hf:=cumM_full y;have:=hr.out;have hs2 : cumM y 12 = cumM y 11 + mdOf y (((11 : Nat) : Int) + 1):=hs;omega
       have hmb:=mdOf_bounds y ((j : Int) + 1);have hcall9:=fun w' => dayN_first y w' hy1 hy2 j hj
       have HC9:=Lib.hid hcall9;clear hcall9;by_cases hj1 : j < 11
       ·have d0 : decide ((j : Int) + 1 < 12) = true:=decide_eq_true (by omega)
        have d1 : decide (dB y + cumM y (j + 1) ≤ d) = false:=decide_eq_false (fun h => hex ⟨hj1,h⟩);have hcall:=dayN_first y wr hy1 hy2 (j + 1) (by omega);rw [show ((j + 1 : Nat) : Int) + 1 = (j : Int) + 1 + 1 by omega] at hcall;have HC:=Lib.hid hcall;clear hcall hex
        go_wp2_with fail
        refine HC.out.mono ?_;clear HC;rintro e w3 ⟨rfl,hb3⟩;have hbl3:=hbl.trans (hb3.mono hsw);clear hbl hb3 hsw
        go_wp2_with fail
        refine (HC9.out w3).mono ?_;clear HC9;rintro e w4 ⟨rfl,hb4⟩;have hbl4:=hbl3.trans (hb4.mono hbl3.size);clear hbl3 hb4;obtain ⟨r,hrr⟩ : ∃ r,r = d - (dB y + cumM y j) + 1:=⟨_,rfl⟩;obtain ⟨m,hm⟩ : ∃ m : Int,m = (j : Int) + 1:=⟨_,rfl⟩;have hr1 : 1 ≤ r:=by omega
        have hr31 : r ≤ 31:=by omega
        go_wp2_with fail
        rw [← hrr,← hm];have hm1 : 1 ≤ m:=by omega
        have hm12 : m ≤ 12:=by omega
        clear hrr hm hr2 hmb hjd hge hcb;obtain ⟨wD,hwD⟩ : ∃ wD,wD = w4.alloc (.cells #[.int .i64 (y / 1000),.int .i64 (y / 100 % 10),.int .i64 (y / 10 % 10),.int .i64 (y % 10),.int .i64 (-1),.int .i64 (m / 10),.int .i64 (m % 10),.int .i64 (-1),.int .i64 (r / 10),.int .i64 (r % 10)] 3):=⟨_,rfl⟩;have hcell : ∀ q,q < 10 → ∃ v : Int,-1 ≤ v ∧ v ≤ 9 ∧ wD.cell? ⟨w4.heap.size,q,none⟩ = some (.int .i64 v):=fun q hq => by
         rw [hwD,World.cell?_alloc_at _ _ _ _ rfl]
         match q,hq with
         | 0,_ => exact ⟨y / 1000,by omega,by omega,rfl⟩
         | 1,_ => exact ⟨y / 100 % 10,by omega,by omega,rfl⟩
         | 2,_ => exact ⟨y / 10 % 10,by omega,by omega,rfl⟩
         | 3,_ => exact ⟨y % 10,by omega,by omega,rfl⟩
         | 4,_ => exact ⟨-1,by omega,by omega,rfl⟩
         | 5,_ => exact ⟨m / 10,by omega,by omega,rfl⟩
         | 6,_ => exact ⟨m % 10,by omega,by omega,rfl⟩
         | 7,_ => exact ⟨-1,by omega,by omega,rfl⟩
         | 8,_ => exact ⟨r / 10,by omega,by omega,rfl⟩
         | 9,_ => exact ⟨r % 10,by omega,by omega,rfl⟩
        have HCE:=Lib.hid hcell;have hblD : Below w.heap.size w wD:=by rw [hwD]; exact hbl4.alloc hbl4.size _
        have hzD : w4.heap.size < wD.heap.size:=by rw [hwD]; simp
        rw [← hwD];clear hwD hbl4 hcell
        go_loopw [6,8] (fun o i wr => ∃ (k : Nat) (s : ByteArray),k ≤ 10 ∧ s.size = k ∧ o = .string s ∧ i = .int .i64 (k : Int) ∧ Below wD.heap.size wD wr) (fun _ i _ => (10 - intOf i).toNat)
        case atStart => exact ⟨0,_,by omega,rfl,rfl,rfl,Below.refl _ _⟩
        case round =>
         obtain ⟨k,s,hk,hsk,rfl,rfl,hbw⟩:=hrel;have hsx:=hbw.size;by_cases hlt : k < 10
         ·have hd2 : decide ((k : Int) < 10) = true:=decide_eq_true (by omega)
          obtain ⟨v,hv1,hv2,hcv⟩:=HCE.out k hlt;have hcr:=(hbw.cell (p:=⟨w4.heap.size,k,none⟩) hzD).trans hcv;by_cases hneg : v < 0
          ·have hd3 : decide (v < 0) = true:=decide_eq_true hneg
           go_wp2_with fail
           go_roundw
           case rel => exact ⟨k + 1,_,by omega,by rw [ByteArray.size_append,hsk]; rfl,rfl,by first | go_num | trivial,hbw⟩
           case measure => simp [intOf]; omega
          ·have hd3 : decide (v < 0) = false:=decide_eq_false hneg
           have hcc:=conv_c wr (48 + v)
           go_wp2_with fail
           go_roundw
           case rel => exact ⟨k + 1,_,by omega,by rw [ByteArray.size_append,hsk,ByteArray.size_push]; rfl,rfl,by first | go_num | trivial,hbw.alloc hbw.size _⟩
           case measure => simp [intOf]; omega
         ·have hd2 : decide ((k : Int) < 10) = false:=decide_eq_false (by omega)
          obtain rfl : k = 10:=by omega
          go_wp2_with fail
          go_ret;exact ⟨⟨s,rfl,by unfold IsDay; rw [HY.out]; exact hsk⟩,hblD.trans (hbw.mono hblD.size)⟩
       ·have d0 : decide ((j : Int) + 1 < 12) = false:=decide_eq_false (by omega)
        clear hex;have hbl3:=hbl;clear hbl hsw;obtain ⟨w3,rfl⟩ : ∃ w3 : World,w3 = wr:=⟨_,rfl⟩
        go_wp2_with fail
        refine (HC9.out w3).mono ?_;clear HC9;rintro e w4 ⟨rfl,hb4⟩;have hbl4:=hbl3.trans (hb4.mono hbl3.size);clear hbl3 hb4;obtain ⟨r,hrr⟩ : ∃ r,r = d - (dB y + cumM y j) + 1:=⟨_,rfl⟩;obtain ⟨m,hm⟩ : ∃ m : Int,m = (j : Int) + 1:=⟨_,rfl⟩;have hr1 : 1 ≤ r:=by omega
        have hr31 : r ≤ 31:=by omega
        go_wp2_with fail
        rw [← hrr,← hm];have hm1 : 1 ≤ m:=by omega
        have hm12 : m ≤ 12:=by omega
        clear hrr hm hr2 hmb hjd hge hcb;obtain ⟨wD,hwD⟩ : ∃ wD,wD = w4.alloc (.cells #[.int .i64 (y / 1000),.int .i64 (y / 100 % 10),.int .i64 (y / 10 % 10),.int .i64 (y % 10),.int .i64 (-1),.int .i64 (m / 10),.int .i64 (m % 10),.int .i64 (-1),.int .i64 (r / 10),.int .i64 (r % 10)] 3):=⟨_,rfl⟩;have hcell : ∀ q,q < 10 → ∃ v : Int,-1 ≤ v ∧ v ≤ 9 ∧ wD.cell? ⟨w4.heap.size,q,none⟩ = some (.int .i64 v):=fun q hq => by
         rw [hwD,World.cell?_alloc_at _ _ _ _ rfl]
         match q,hq with
         | 0,_ => exact ⟨y / 1000,by omega,by omega,rfl⟩
         | 1,_ => exact ⟨y / 100 % 10,by omega,by omega,rfl⟩
         | 2,_ => exact ⟨y / 10 % 10,by omega,by omega,rfl⟩
         | 3,_ => exact ⟨y % 10,by omega,by omega,rfl⟩
         | 4,_ => exact ⟨-1,by omega,by omega,rfl⟩
         | 5,_ => exact ⟨m / 10,by omega,by omega,rfl⟩
         | 6,_ => exact ⟨m % 10,by omega,by omega,rfl⟩
         | 7,_ => exact ⟨-1,by omega,by omega,rfl⟩
         | 8,_ => exact ⟨r / 10,by omega,by omega,rfl⟩
         | 9,_ => exact ⟨r % 10,by omega,by omega,rfl⟩
        have HCE:=Lib.hid hcell;have hblD : Below w.heap.size w wD:=by rw [hwD]; exact hbl4.alloc hbl4.size _
        have hzD : w4.heap.size < wD.heap.size:=by rw [hwD]; simp
        rw [← hwD];clear hwD hbl4 hcell
        go_loopw [6,8] (fun o i wr => ∃ (k : Nat) (s : ByteArray),k ≤ 10 ∧ s.size = k ∧ o = .string s ∧ i = .int .i64 (k : Int) ∧ Below wD.heap.size wD wr) (fun _ i _ => (10 - intOf i).toNat)
        case atStart => exact ⟨0,_,by omega,rfl,rfl,rfl,Below.refl _ _⟩
        case round =>
         obtain ⟨k,s,hk,hsk,rfl,rfl,hbw⟩:=hrel;have hsx:=hbw.size;by_cases hlt : k < 10
         ·have hd2 : decide ((k : Int) < 10) = true:=decide_eq_true (by omega)
          obtain ⟨v,hv1,hv2,hcv⟩:=HCE.out k hlt;have hcr:=(hbw.cell (p:=⟨w4.heap.size,k,none⟩) hzD).trans hcv;by_cases hneg : v < 0
          ·have hd3 : decide (v < 0) = true:=decide_eq_true hneg
           go_wp2_with fail
           go_roundw
           case rel => exact ⟨k + 1,_,by omega,by rw [ByteArray.size_append,hsk]; rfl,rfl,by first | go_num | trivial,hbw⟩
           case measure => simp [intOf]; omega
          ·have hd3 : decide (v < 0) = false:=decide_eq_false hneg
           have hcc:=conv_c wr (48 + v)
           go_wp2_with fail
           go_roundw
           case rel => exact ⟨k + 1,_,by omega,by rw [ByteArray.size_append,hsk,ByteArray.size_push]; rfl,rfl,by first | go_num | trivial,hbw.alloc hbw.size _⟩
           case measure => simp [intOf]; omega
         ·have hd2 : decide ((k : Int) < 10) = false:=decide_eq_false (by omega)
          obtain rfl : k = 10:=by omega
          go_wp2_with fail
          go_ret;exact ⟨⟨s,rfl,by unfold IsDay; rw [HY.out]; exact hsk⟩,hblD.trans (hbw.mono hblD.size)⟩
    ·have d0 : decide (y < 4000) = false:=decide_eq_false hy4
     clear hex;have hbl2:=hbl;clear hbl hsw;obtain ⟨w2,rfl⟩ : ∃ w2 : World,w2 = wr:=⟨_,rfl⟩
     go_wp2_with fail
     clear d0 hy4
     go_loopw [4] (fun i wr => ∃ j : Nat,j ≤ 11 ∧ dB y + cumM y j ≤ d ∧ i = .int .i64 ((j : Int) + 1) ∧ Below w.heap.size w wr) (fun i _ => (13 - intOf i).toNat)
     case atStart => exact ⟨0,by omega,by simp [cumM]; exact hyd,by simp,hbl2⟩
     case round =>
      clear hbl2;obtain ⟨j,hj,hjd,rfl,hbl⟩:=hrel;have hsw:=hbl.size;have hge:=dB_ge hy1;have hcb:=cumM_bounds y j;by_cases hex : j < 11 ∧ dB y + cumM y (j + 1) ≤ d
      ·obtain ⟨hj1,hc⟩:=hex
       have d0 : decide ((j : Int) + 1 < 12) = true:=decide_eq_true (by omega);have d1 : decide (dB y + cumM y (j + 1) ≤ d) = true:=decide_eq_true hc;have hcall:=dayN_first y wr hy1 hy2 (j + 1) (by omega);rw [show ((j + 1 : Nat) : Int) + 1 = (j : Int) + 1 + 1 by omega] at hcall;have HC:=Lib.hid hcall;clear hcall
       go_wp2_with fail
       refine HC.out.mono ?_;rintro e w3 ⟨rfl,hb3⟩
       go_wp2_with fail
       go_roundw
       case rel => exact ⟨j + 1,by omega,hc,by first | trivial | go_num,hbl.trans (hb3.mono hsw)⟩
       case measure => simp [intOf]; omega
      ·have hr2 : d - (dB y + cumM y j) < mdOf y ((j : Int) + 1):=by
          have hs:=cumM_succ y j;by_cases h11 : j < 11
          ·have : ¬ dB y + cumM y (j + 1) ≤ d:=fun h => hex ⟨h11,h⟩
           omega
          ·have e : j = 11:=by omega
           subst e;have hf:=cumM_full y;have:=hr.out;have hs2 : cumM y 12 = cumM y 11 + mdOf y (((11 : Nat) : Int) + 1):=hs;omega
       have hmb:=mdOf_bounds y ((j : Int) + 1);have hcall9:=fun w' => dayN_first y w' hy1 hy2 j hj
       have HC9:=Lib.hid hcall9;clear hcall9;by_cases hj1 : j < 11
       ·have d0 : decide ((j : Int) + 1 < 12) = true:=decide_eq_true (by omega)
        have d1 : decide (dB y + cumM y (j + 1) ≤ d) = false:=decide_eq_false (fun h => hex ⟨hj1,h⟩);have hcall:=dayN_first y wr hy1 hy2 (j + 1) (by omega);rw [show ((j + 1 : Nat) : Int) + 1 = (j : Int) + 1 + 1 by omega] at hcall;have HC:=Lib.hid hcall;clear hcall hex
        go_wp2_with fail
        refine HC.out.mono ?_;clear HC;rintro e w3 ⟨rfl,hb3⟩;have hbl3:=hbl.trans (hb3.mono hsw);clear hbl hb3 hsw
        go_wp2_with fail
        refine (HC9.out w3).mono ?_;clear HC9;rintro e w4 ⟨rfl,hb4⟩;have hbl4:=hbl3.trans (hb4.mono hbl3.size);clear hbl3 hb4;obtain ⟨r,hrr⟩ : ∃ r,r = d - (dB y + cumM y j) + 1:=⟨_,rfl⟩;obtain ⟨m,hm⟩ : ∃ m : Int,m = (j : Int) + 1:=⟨_,rfl⟩;have hr1 : 1 ≤ r:=by omega
        have hr31 : r ≤ 31:=by omega
        go_wp2_with fail
        rw [← hrr,← hm];have hm1 : 1 ≤ m:=by omega
        have hm12 : m ≤ 12:=by omega
        clear hrr hm hr2 hmb hjd hge hcb;obtain ⟨wD,hwD⟩ : ∃ wD,wD = w4.alloc (.cells #[.int .i64 (y / 1000),.int .i64 (y / 100 % 10),.int .i64 (y / 10 % 10),.int .i64 (y % 10),.int .i64 (-1),.int .i64 (m / 10),.int .i64 (m % 10),.int .i64 (-1),.int .i64 (r / 10),.int .i64 (r % 10)] 3):=⟨_,rfl⟩;have hcell : ∀ q,q < 10 → ∃ v : Int,-1 ≤ v ∧ v ≤ 9 ∧ wD.cell? ⟨w4.heap.size,q,none⟩ = some (.int .i64 v):=fun q hq => by
         rw [hwD,World.cell?_alloc_at _ _ _ _ rfl]
         match q,hq with
         | 0,_ => exact ⟨y / 1000,by omega,by omega,rfl⟩
         | 1,_ => exact ⟨y / 100 % 10,by omega,by omega,rfl⟩
         | 2,_ => exact ⟨y / 10 % 10,by omega,by omega,rfl⟩
         | 3,_ => exact ⟨y % 10,by omega,by omega,rfl⟩
         | 4,_ => exact ⟨-1,by omega,by omega,rfl⟩
         | 5,_ => exact ⟨m / 10,by omega,by omega,rfl⟩
         | 6,_ => exact ⟨m % 10,by omega,by omega,rfl⟩
         | 7,_ => exact ⟨-1,by omega,by omega,rfl⟩
         | 8,_ => exact ⟨r / 10,by omega,by omega,rfl⟩
         | 9,_ => exact ⟨r % 10,by omega,by omega,rfl⟩
        have HCE:=Lib.hid hcell;have hblD : Below w.heap.size w wD:=by rw [hwD]; exact hbl4.alloc hbl4.size _
        have hzD : w4.heap.size < wD.heap.size:=by rw [hwD]; simp
        rw [← hwD];clear hwD hbl4 hcell
        go_loopw [6,8] (fun o i wr => ∃ (k : Nat) (s : ByteArray),k ≤ 10 ∧ s.size = k ∧ o = .string s ∧ i = .int .i64 (k : Int) ∧ Below wD.heap.size wD wr) (fun _ i _ => (10 - intOf i).toNat)
        case atStart => exact ⟨0,_,by omega,rfl,rfl,rfl,Below.refl _ _⟩
        case round =>
         obtain ⟨k,s,hk,hsk,rfl,rfl,hbw⟩:=hrel;have hsx:=hbw.size;by_cases hlt : k < 10
         ·have hd2 : decide ((k : Int) < 10) = true:=decide_eq_true (by omega)
          obtain ⟨v,hv1,hv2,hcv⟩:=HCE.out k hlt;have hcr:=(hbw.cell (p:=⟨w4.heap.size,k,none⟩) hzD).trans hcv;by_cases hneg : v < 0
          ·have hd3 : decide (v < 0) = true:=decide_eq_true hneg
           go_wp2_with fail
           go_roundw
           case rel => exact ⟨k + 1,_,by omega,by rw [ByteArray.size_append,hsk]; rfl,rfl,by first | go_num | trivial,hbw⟩
           case measure => simp [intOf]; omega
          ·have hd3 : decide (v < 0) = false:=decide_eq_false hneg
           have hcc:=conv_c wr (48 + v)
           go_wp2_with fail
           go_roundw
           case rel => exact ⟨k + 1,_,by omega,by rw [ByteArray.size_append,hsk,ByteArray.size_push]; rfl,rfl,by first | go_num | trivial,hbw.alloc hbw.size _⟩
           case measure => simp [intOf]; omega
         ·have hd2 : decide ((k : Int) < 10) = false:=decide_eq_false (by omega)
          obtain rfl : k = 10:=by omega
          go_wp2_with fail
          go_ret;exact ⟨⟨s,rfl,by unfold IsDay; rw [HY.out]; exact hsk⟩,hblD.trans (hbw.mono hblD.size)⟩
       ·have d0 : decide ((j : Int) + 1 < 12) = false:=decide_eq_false (by omega)
        clear hex;have hbl3:=hbl;clear hbl hsw;obtain ⟨w3,rfl⟩ : ∃ w3 : World,w3 = wr:=⟨_,rfl⟩
        go_wp2_with fail
        refine (HC9.out w3).mono ?_;clear HC9;rintro e w4 ⟨rfl,hb4⟩;have hbl4:=hbl3.trans (hb4.mono hbl3.size);clear hbl3 hb4;obtain ⟨r,hrr⟩ : ∃ r,r = d - (dB y + cumM y j) + 1:=⟨_,rfl⟩;obtain ⟨m,hm⟩ : ∃ m : Int,m = (j : Int) + 1:=⟨_,rfl⟩;have hr1 : 1 ≤ r:=by omega
        have hr31 : r ≤ 31:=by omega
        go_wp2_with fail
        rw [← hrr,← hm];have hm1 : 1 ≤ m:=by omega
        have hm12 : m ≤ 12:=by omega
        clear hrr hm hr2 hmb hjd hge hcb;obtain ⟨wD,hwD⟩ : ∃ wD,wD = w4.alloc (.cells #[.int .i64 (y / 1000),.int .i64 (y / 100 % 10),.int .i64 (y / 10 % 10),.int .i64 (y % 10),.int .i64 (-1),.int .i64 (m / 10),.int .i64 (m % 10),.int .i64 (-1),.int .i64 (r / 10),.int .i64 (r % 10)] 3):=⟨_,rfl⟩;have hcell : ∀ q,q < 10 → ∃ v : Int,-1 ≤ v ∧ v ≤ 9 ∧ wD.cell? ⟨w4.heap.size,q,none⟩ = some (.int .i64 v):=fun q hq => by
         rw [hwD,World.cell?_alloc_at _ _ _ _ rfl]
         match q,hq with
         | 0,_ => exact ⟨y / 1000,by omega,by omega,rfl⟩
         | 1,_ => exact ⟨y / 100 % 10,by omega,by omega,rfl⟩
         | 2,_ => exact ⟨y / 10 % 10,by omega,by omega,rfl⟩
         | 3,_ => exact ⟨y % 10,by omega,by omega,rfl⟩
         | 4,_ => exact ⟨-1,by omega,by omega,rfl⟩
         | 5,_ => exact ⟨m / 10,by omega,by omega,rfl⟩
         | 6,_ => exact ⟨m % 10,by omega,by omega,rfl⟩
         | 7,_ => exact ⟨-1,by omega,by omega,rfl⟩
         | 8,_ => exact ⟨r / 10,by omega,by omega,rfl⟩
         | 9,_ => exact ⟨r % 10,by omega,by omega,rfl⟩
        have HCE:=Lib.hid hcell;have hblD : Below w.heap.size w wD:=by rw [hwD]; exact hbl4.alloc hbl4.size _
        have hzD : w4.heap.size < wD.heap.size:=by rw [hwD]; simp
        rw [← hwD];clear hwD hbl4 hcell
        go_loopw [6,8] (fun o i wr => ∃ (k : Nat) (s : ByteArray),k ≤ 10 ∧ s.size = k ∧ o = .string s ∧ i = .int .i64 (k : Int) ∧ Below wD.heap.size wD wr) (fun _ i _ => (10 - intOf i).toNat)
        case atStart => exact ⟨0,_,by omega,rfl,rfl,rfl,Below.refl _ _⟩
        case round =>
         obtain ⟨k,s,hk,hsk,rfl,rfl,hbw⟩:=hrel;have hsx:=hbw.size;by_cases hlt : k < 10
         ·have hd2 : decide ((k : Int) < 10) = true:=decide_eq_true (by omega)
          obtain ⟨v,hv1,hv2,hcv⟩:=HCE.out k hlt;have hcr:=(hbw.cell (p:=⟨w4.heap.size,k,none⟩) hzD).trans hcv;by_cases hneg : v < 0
          ·have hd3 : decide (v < 0) = true:=decide_eq_true hneg
           go_wp2_with fail
           go_roundw
           case rel => exact ⟨k + 1,_,by omega,by rw [ByteArray.size_append,hsk]; rfl,rfl,by first | go_num | trivial,hbw⟩
           case measure => simp [intOf]; omega
          ·have hd3 : decide (v < 0) = false:=decide_eq_false hneg
           have hcc:=conv_c wr (48 + v)
           go_wp2_with fail
           go_roundw
           case rel => exact ⟨k + 1,_,by omega,by rw [ByteArray.size_append,hsk,ByteArray.size_push]; rfl,rfl,by first | go_num | trivial,hbw.alloc hbw.size _⟩
           case measure => simp [intOf]; omega
         ·have hd2 : decide ((k : Int) < 10) = false:=decide_eq_false (by omega)
          obtain rfl : k = 10:=by omega
          go_wp2_with fail
          go_ret;exact ⟨⟨s,rfl,by unfold IsDay; rw [HY.out]; exact hsk⟩,hblD.trans (hbw.mono hblD.size)⟩
 ·have HI:=Lib.hid (inB_false (n:=d) (lo:=0) (hi:=1460969) (by omega))
  have HN:=Lib.hid (dayB_no (d:=d) (by omega));clear h0;go_enter Tryz.func123,Tryz.ntmps123
  go_wp2_with fail
  refine (dayN_last w).mono ?_;rintro e w1 ⟨rfl,hb1⟩
  go_wp2_with fail
  refine (l1In_any _ _ _ w1).mono ?_;rintro e w' ⟨rfl,rfl⟩;rw [HI.out]
  go_wp2_with fail
  go_ret;exact ⟨⟨_,rfl,by unfold IsDay; rw [HN.out]; rfl⟩,hb1⟩
def mdA (y m : Int) : Int:=if (1 ≤ y ∧ y ≤ 4000) ∧ 1 ≤ m ∧ m ≤ 12 then mdOf y m else -1
theorem mdA_yes {y m : Int} (h1 : 1 ≤ y) (h2 : y ≤ 4000) (h3 : 1 ≤ m) (h4 : m ≤ 12) : mdA y m = mdOf y m:=if_pos ⟨⟨h1,h2⟩,h3,h4⟩
theorem mdA_no {y m : Int} (h : ¬ ((1 ≤ y ∧ y ≤ 4000) ∧ 1 ≤ m ∧ m ≤ 12)) : mdA y m = -1:=if_neg h
def Dy (y m d : Int) : Prop:=((1 ≤ y ∧ y ≤ 4000) ∧ 1 ≤ m ∧ m ≤ 12) ∧ 1 ≤ d ∧ d ≤ mdOf y m
instance (y m d : Int) : Decidable (Dy y m d):=inferInstanceAs (Decidable (_ ∧ _))
def dnOf (y m d : Int) : Int:=if Dy y m d then dB y + d - 1 + cumM y (m.toNat - 1) else -1
theorem dn_yes {y m d : Int} (h : Dy y m d) : dnOf y m d = dB y + d - 1 + cumM y (m.toNat - 1):=if_pos h
theorem dn_no {y m d : Int} (h : ¬ Dy y m d) : dnOf y m d = -1:=if_neg h
theorem dB_mono {y z : Int} (h : y ≤ z) : dB y ≤ dB z:=by unfold dB; omega
theorem cumM_mono (y : Int) {n m : Nat} (h : n ≤ m) : cumM y n ≤ cumM y m:=by
 induction m with
 | zero => obtain rfl : n = 0:=by omega
           exact Int.le_refl _
 | succ m ih =>
  rcases Nat.lt_succ_iff_lt_or_eq.1 (Nat.lt_succ_of_le h) with h1 | rfl
  ·have:=ih (by omega); have:=cumM_succ y m; have:=mdOf_bounds y (m + 1); omega
  ·exact Int.le_refl _
theorem dn_in {y m d : Int} (h : Dy y m d) : dB y ≤ dnOf y m d ∧ dnOf y m d < dB (y + 1):=by
 rw [dn_yes h];obtain ⟨⟨hy,h3,h4⟩,h5,h6⟩:=h;obtain ⟨n,hn⟩ : ∃ n : Nat,m = (n : Int) + 1:=⟨(m - 1).toNat,by omega⟩;have e : m.toNat - 1 = n:=by omega
 rw [e];rw [hn] at h6;have h1:=cumM_succ y n;have h2:=cumM_mono y (show n + 1 ≤ 12 by omega);have h0:=cumM_bounds y n;have hf:=cumM_full y;have hs:=dB_succ (y:=y);omega
theorem dn_pos {y m d : Int} (h : Dy y m d) : 0 ≤ dnOf y m d ∧ dnOf y m d < 1460970:=by
 have h1:=dn_in h;have h2 : dB (y + 1) ≤ dB 4001:=dB_mono (by have:=h.1.1; omega);have h3:=dB_ge h.1.1.1;rw [dB_last] at h2;have:=h.1.1;omega
theorem dn_inj {y m d y' m' d' : Int} (h : Dy y m d) (h' : Dy y' m' d') (e : dnOf y m d = dnOf y' m' d') : y = y' ∧ m = m' ∧ d = d':=by
 have i1:=dn_in h;have i2:=dn_in h';have hy : y = y':=by
  rcases Int.lt_trichotomy y y' with q | q | q
  ·have:=dB_mono (show y + 1 ≤ y' by omega); omega
  ·exact q
  ·have:=dB_mono (show y' + 1 ≤ y by omega); omega
 subst hy;rw [dn_yes h,dn_yes h'] at e;obtain ⟨⟨hy,h3,h4⟩,h5,h6⟩:=h;obtain ⟨⟨_,h3',h4'⟩,h5',h6'⟩:=h';obtain ⟨n,hn⟩ : ∃ n : Nat,m = (n : Int) + 1:=⟨(m - 1).toNat,by omega⟩;obtain ⟨n',hn'⟩ : ∃ n' : Nat,m' = (n' : Int) + 1:=⟨(m' - 1).toNat,by omega⟩;rw [show m.toNat - 1 = n by omega,show m'.toNat - 1 = n' by omega] at e;rw [hn] at h6;rw [hn'] at h6';have s1:=cumM_succ y n;have s2:=cumM_succ y n';have hnn : n = n':=by
  rcases Nat.lt_trichotomy n n' with q | q | q
  ·have:=cumM_mono y (show n + 1 ≤ n' by omega); omega
  ·exact q
  ·have:=cumM_mono y (show n' + 1 ≤ n by omega); omega
 subst hnn;exact ⟨rfl,by omega,by omega⟩
theorem padS_bb {n k j : Nat} (hj : j < k) : bb (padS n k) j = 48 + ((n / 10 ^ (k - 1 - j) % 10 : Nat) : Int):=by
 have key : ∀ l : List Int,(∀ x,x ∈ l → 0 ≤ x ∧ x ≤ 255) → ∀ s : ByteArray,∀ i,i < l.length → bb (l.foldl (fun r x => r.push (UInt8.ofNat x.toNat)) s) (s.size + i) = l[i]?.getD 0:=by
  intro l
  induction l with
  | nil => intro _ s i hi; simp at hi
  | cons x l ih =>
   intro hx s i hi;rw [List.foldl_cons];cases i with
   | zero =>
    have hb:=hx x (by simp);have e1 : ∀ (l : List Int) (u : ByteArray) (p : Nat),p < u.size → bb (l.foldl (fun r x => r.push (UInt8.ofNat x.toNat)) u) p = bb u p:=by
     intro l
     induction l with
     | nil => intro u p _; rfl
     | cons y l ih2 =>
      intro u p hp;rw [List.foldl_cons,ih2 _ _ (by rw [ByteArray.size_push]; omega),push_one,bb_left hp]
    rw [e1 _ _ _ (by rw [ByteArray.size_push]; omega),push_one,Nat.add_zero];have:=bb_right s { data:=#[UInt8.ofNat x.toNat] } 0;rw [Nat.add_zero] at this;rw [this]
    show (((UInt8.ofNat x.toNat).toNat : Nat) : Int) = x
    rw [UInt8.toNat_ofNat']; omega
   | succ i =>
    have:=ih (fun z hz => hx z (by simp [hz])) (s.push (UInt8.ofNat x.toNat)) i (by simp at hi; omega);rw [ByteArray.size_push] at this;rw [show s.size + (i + 1) = s.size + 1 + i by omega,this];simp
 have hk:=key (pdL n k) (fun x hx => by
  unfold pdL at hx;obtain ⟨q,_,rfl⟩:=List.mem_map.1 hx
  unfold dgD; omega) ByteArray.empty j (by simp [pdL]; exact hj)
 rw [show ByteArray.empty.size + j = j by simp] at hk;refine Eq.trans hk ?_;unfold pdL;rw [List.getElem?_map,List.getElem?_range hj];rfl
def dot : ByteArray:={ data:=#[46] }
def dtx (y m d : Nat) : ByteArray:=padS y 4 ++ dot ++ padS m 2 ++ dot ++ padS d 2
theorem dtx_size (y m d : Nat) : (dtx y m d).size = 10:=by
 unfold dtx;simp only [ByteArray.size_append,padS_size];rfl
theorem dtx_bb {y m d j : Nat} (hj : j < 10) : bb (dtx y m d) j = if j < 4 then 48 + ((y / 10 ^ (3 - j) % 10 : Nat) : Int) else if j = 4 then 46 else if j < 7 then 48 + ((m / 10 ^ (6 - j) % 10 : Nat) : Int) else if j = 7 then 46 else 48 + ((d / 10 ^ (9 - j) % 10 : Nat) : Int):=by
 have hd : dot.size = 1:=rfl;unfold dtx;simp only [bb_app,ByteArray.size_append,padS_size,hd];rcases (by omega : j = 0 ∨ j = 1 ∨ j = 2 ∨ j = 3 ∨ j = 4 ∨ j = 5 ∨ j = 6 ∨ j = 7 ∨ j = 8 ∨ j = 9) with rfl | rfl | rfl | rfl | rfl | rfl | rfl | rfl | rfl | rfl <;> simp [padS_bb] <;> rfl
def Cn (s : ByteArray) : Prop:=s.size = 10 ∧ bb s 4 = 46 ∧ bb s 7 = 46 ∧ ∀ j,j < 10 → j ≠ 4 → j ≠ 7 → 48 ≤ bb s j ∧ bb s j ≤ 57
instance (s : ByteArray) : Decidable (Cn s):=inferInstanceAs (Decidable (_ ∧ _ ∧ _ ∧ ∀ j,j < 10 → j ≠ 4 → j ≠ 7 → 48 ≤ bb s j ∧ bb s j ≤ 57))
def dgt (s : ByteArray) (j : Nat) : Nat:=(bb s j - 48).toNat
def pY (s : ByteArray) : Nat:=((dgt s 0 * 10 + dgt s 1) * 10 + dgt s 2) * 10 + dgt s 3
def pM (s : ByteArray) : Nat:=dgt s 5 * 10 + dgt s 6
def pD (s : ByteArray) : Nat:=dgt s 8 * 10 + dgt s 9
theorem cn_dg {s : ByteArray} (h : Cn s) {j : Nat} (hj : j < 10) (h4 : j ≠ 4) (h7 : j ≠ 7) : bb s j = 48 + (dgt s j : Int) ∧ dgt s j ≤ 9:=by
 have:=h.2.2.2 j hj h4 h7;unfold dgt; omega
theorem cn_dtx {s : ByteArray} (h : Cn s) : dtx (pY s) (pM s) (pD s) = s:=by
 apply ba_bb
 ·rw [dtx_size,h.1]
 ·intro j hj
  rw [dtx_size] at hj;rw [dtx_bb hj];have d0:=cn_dg h (j:=0) (by omega) (by omega) (by omega);have d1:=cn_dg h (j:=1) (by omega) (by omega) (by omega);have d2:=cn_dg h (j:=2) (by omega) (by omega) (by omega);have d3:=cn_dg h (j:=3) (by omega) (by omega) (by omega);have d5:=cn_dg h (j:=5) (by omega) (by omega) (by omega);have d6:=cn_dg h (j:=6) (by omega) (by omega) (by omega);have d8:=cn_dg h (j:=8) (by omega) (by omega) (by omega);have d9:=cn_dg h (j:=9) (by omega) (by omega) (by omega);have d4:=h.2.1;have d7:=h.2.2.1;unfold pY pM pD;rcases (by omega : j = 0 ∨ j = 1 ∨ j = 2 ∨ j = 3 ∨ j = 4 ∨ j = 5 ∨ j = 6 ∨ j = 7 ∨ j = 8 ∨ j = 9) with rfl | rfl | rfl | rfl | rfl | rfl | rfl | rfl | rfl | rfl <;> simp <;> omega
theorem dtx_cn (y m d : Nat) : Cn (dtx y m d):=by
 refine ⟨dtx_size y m d,by rw [dtx_bb (by omega)]; rfl,by rw [dtx_bb (by omega)]; rfl,fun j hj h4 h7 => ?_⟩;rw [dtx_bb hj]
 (repeat' split) <;> omega
def rdD (s : ByteArray) : Int:=if Cn s then dnOf (pY s) (pM s) (pD s) else -1
theorem rdD_yes {s : ByteArray} (h : Cn s) : rdD s = dnOf (pY s) (pM s) (pD s):=if_pos h
theorem rdD_no {s : ByteArray} (h : ¬ Cn s) : rdD s = -1:=if_neg h
end Go.Proofs.YtfnmlffpnmmcdaaGreatDoor
