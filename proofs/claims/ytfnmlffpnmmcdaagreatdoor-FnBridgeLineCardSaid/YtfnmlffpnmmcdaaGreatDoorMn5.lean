/- Parts of the proof, merged: Loose MakeKit ListsItem ListsHandle Cb BlA ChB. -/
import Derived.Test.YtfnmlffpnmmcdaaGreatDoorMn1
import Derived.Test.YtfnmlffpnmmcdaaGreatDoorMn3
import Derived.Test.YtfnmlffpnmmcdaaGreatDoorMn4
namespace Go.Proofs.YtfnmlffpnmmcdaaGreatDoor
set_option maxRecDepth 100000
open Go.RowKit
abbrev Spec:=Value → World → Prop
def slotv (a : Act) : Option Tmp → Value
 | some d => a.tmps.getD d undef
 | none => undef
def looseUpon (P : Program) (R : World → World → Prop) (G : Nat → World → Prop) (k : Nat) (s : Spec) (w : World) : Result Next → Prop
 | .ok (.value v) w' => R w w' ∧ G k w' ∧ s v w'
 | .ok .skip w' => R w w' ∧ G k w' ∧ s undef w'
 | .ok (.enter f args) w' => w' = w ∧ Calls P f args w (fun e w'' => ∃ v,e = .returned v ∧ R w w'' ∧ G k w'' ∧ s v w'')
 | _ => False
def looseRun (P : Program) (R : World → World → Prop) (G : Nat → World → Prop) (k : Nat) (s : Spec) (o : Oper) (a : Act) (w : World) : Prop:=looseUpon P R G k s w ((execOp a.eval o).run P w)
theorem wp_of_loose {P : Program} {R : World → World → Prop} {G : Nat → World → Prop} {k : Nat} {s : Spec} {o : Oper} {a : Act} {w : World} {K : Act → World → Prop} {Q : Exit → Act → World → Prop}
    (h : looseRun P R G k s o a w) (hk : ∀ v w',R w w' → G k w' → s v w' → K (a.put o.dst v) w') : o.wp P a w K Q:=by
 unfold looseRun at h
 unfold Oper.wp
 generalize (execOp a.eval o).run P w = r at *
 cases r with
 | ok n w' =>
  cases n <;> simp only [looseUpon] at h <;> simp only [Oper.upon]
  case value u => exact hk _ _ h.1 h.2.1 h.2.2
  case skip => exact hk _ _ h.1 h.2.1 h.2.2
  case enter f args =>
   obtain ⟨rfl,hc⟩:=h
   exact hc.mono fun e w'' ⟨v,he,h1,h2,h3⟩ => by subst he; exact hk _ _ h1 h2 h3
 | halt x w' => simp only [looseUpon] at h
def depHold (l : List Oper) (specs : List Spec) (j : Nat) (a : Act) (w : World) : Prop :=
 match l[j]?,specs[j]? with
 | some o,some s => s (slotv a o.dst) w
 | _,_ => True
def depsL (l : List Oper) (specs : List Spec) (a : Act) (w : World) : List Edge → Prop
 | [] => True
 | e :: es => (Region.binds .any e = true → depHold l specs e.on a w) ∧ depsL l specs a w es
theorem depsL_of {l : List Oper} {specs : List Spec} {a : Act} {w : World} : ∀ {es : List Edge},(∀ e ∈ es,Region.binds .any e = true → depHold l specs e.on a w) → depsL l specs a w es
 | [],_ => trivial
 | _ :: _,h => ⟨h _ (List.mem_cons_self ..),depsL_of fun e he => h e (List.mem_cons_of_mem _ he)⟩
def dstsL (l : List Oper) : List Tmp:=l.filterMap (·.dst)
def StepOK (P : Program) (R : World → World → Prop) (G : Nat → World → Prop) (K0 K1 : Nat) (l : List Oper) (specs : List Spec) (a : Act) (w0 : World) (o : Oper) (s : Spec) (c : Nat) : Prop :=
 ∀ k a' w',K0 ≤ k → k + c ≤ K1 → R w0 w' → G k w' → (∀ t,(dstsL l).contains t = false → a'.tmps.getD t undef = a.tmps.getD t undef) → depsL l specs a' w' o.after.toList → looseRun P R G (k + c) s o a' w'
def looseSteps (S : Oper → Spec → Nat → Prop) : List Oper → List Spec → List Nat → Prop
 | o :: os,s :: ss,c :: cs => S o s c ∧ looseSteps S os ss cs
 | _,_,_ => True
theorem looseSteps_at {S : Oper → Spec → Nat → Prop} : ∀ {l : List Oper} {ss : List Spec} {cs : List Nat},looseSteps S l ss cs → ∀ {i : Nat} {o : Oper} {s : Spec} {c : Nat},l[i]? = some o → ss[i]? = some s → cs[i]? = some c → S o s c
 | o :: os,s :: ss,c :: cs,h,0,o',s',c',h1,h2,h3 => by
  simp at h1 h2 h3; subst h1; subst h2; subst h3; exact h.1
 | o :: os,s :: ss,c :: cs,h,i + 1,o',s',c',h1,h2,h3 => looseSteps_at h.2 (i:=i) (by simpa using h1) (by simpa using h2) (by simpa using h3)
 | [],_,_,_,_,_,_,_,h1,_,_ => by simp at h1
 | _ :: _,[],_,_,_,_,_,_,_,h2,_ => by simp at h2
 | _ :: _,_ :: _,[],_,_,_,_,_,_,_,h3 => by simp at h3
def looseAll (w' : World) (K : Act → Prop) : List Oper → List Spec → Act → Prop
 | o :: os,s :: ss,a => ∀ v,s v w' → looseAll w' K os ss (a.put o.dst v)
 | _,_,a => K a
theorem tmps_put (a : Act) (d : Option Tmp) (v : Value) (t : Nat) : (a.put d v).tmps[t]? = if d = some t ∧ t < a.tmps.size then some v else a.tmps[t]?:=by
 cases d with
 | none => simp [Act.put]
 | some d =>
  simp only [Act.put,Array.getElem?_setIfInBounds,Option.some.injEq]
  by_cases h : d = t
  ·subst h
   by_cases h2 : d < a.tmps.size
   ·simp [h2]
   ·simp [h2]
  ·simp [h]
theorem size_put (a : Act) (d : Option Tmp) (v : Value) : (a.put d v).tmps.size = a.tmps.size:=by cases d <;> simp [Act.put]
theorem defers_put (a : Act) (d : Option Tmp) (v : Value) : (a.put d v).defers = a.defers:=by cases d <;> rfl
theorem looseAll_use {w' : World} {K : Act → Prop} {a' : Act} : ∀ (l : List Oper) (ss : List Spec) (a0 : Act),ss.length = l.length → a'.tmps.size = a0.tmps.size → a'.defers = a0.defers →
    (∀ t,(dstsL l).contains t = false → a'.tmps[t]? = a0.tmps[t]?) → (∀ (i : Nat) (o : Oper) (s : Spec),l[i]? = some o → ss[i]? = some s → s (slotv a' o.dst) w') → looseAll w' K l ss a0 → K a'
 | [],[],a0,_,hs,hd,hk,_,h => by
  have ht : a'.tmps = a0.tmps:=Array.ext_getElem? fun t => hk t (by rfl)
  have : a' = a0:=by cases a'; cases a0; simp at ht hd; simp [ht,hd]
  rw [this]; exact h
 | o :: os,s :: ss,a0,hl,hs,hd,hk,hp,h => by
  have hv:=hp 0 o s rfl rfl
  refine looseAll_use os ss (a0.put o.dst (slotv a' o.dst)) (by simpa using hl) (by rw [size_put]; exact hs) (by rw [defers_put]; exact hd) (fun t ht => ?_) (fun i o' s' h1 h2 => hp (i + 1) o' s' (by simpa using h1) (by simpa using h2)) (h _ hv)
  rw [tmps_put]
  split
  ·next hq =>
   obtain ⟨h1,h2⟩:=hq
   rw [h1]
   have h3 : t < a'.tmps.size:=by rw [hs]; exact h2
   simp [slotv,h3]
  ·next hq =>
   by_cases hdt : o.dst = some t
   ·have h2 : ¬ t < a0.tmps.size:=fun h2 => hq ⟨hdt,h2⟩
    rw [Array.getElem?_eq_none (by rw [hs]; exact Nat.not_lt.1 h2),Array.getElem?_eq_none (Nat.not_lt.1 h2)]
   ·refine hk t ?_
    unfold dstsL at ht ⊢
    rw [List.filterMap_cons]
    split
    ·exact ht
    ·next d hd2 =>
     have hne : d ≠ t:=fun e => hdt (by rw [hd2,e])
     rw [List.contains_cons,ht]
     simp [Ne.symm hne]
def edgesL (o : Oper) : List Nat:=(o.after.toList.filter (Region.binds .any)).map (·.on)
theorem mem_edges {o : Oper} {j : Nat} (h : j ∈ edgesL o) : ∃ e ∈ o.after,Region.binds .any e = true ∧ e.on = j:=by
 unfold edgesL at h
 obtain ⟨e,he,rfl⟩:=List.mem_map.1 h
 rw [List.mem_filter] at he
 exact ⟨e,by simpa using he.1,he.2,rfl⟩
theorem edges_mem {o : Oper} {e : Edge} (he : e ∈ o.after) (hb : Region.binds .any e = true) : e.on ∈ edgesL o:=List.mem_map.2 ⟨e,List.mem_filter.2 ⟨by simpa using he,hb⟩,rfl⟩
def allAnc (l : List Oper) : Nat → List Nat → Bool
 | 0,_ => true
 | j + 1,S => S.contains j && allAnc l j (match l[j]? with | some o => edgesL o ++ S | none => S)
theorem allAnc_sound {l : List Oper} {p : Nat → Prop} (hdc : ∀ i o,l[i]? = some o → p i → ∀ j ∈ edgesL o,p j) : ∀ {n : Nat} {S : List Nat},allAnc l n S = true → (∀ j ∈ S,p j) → ∀ j,j < n → p j
 | 0,_,_,_,j,hj => absurd hj (by omega)
 | n + 1,S,h,hS,j,hj => by
  rw [allAnc,Bool.and_eq_true] at h
  have hn : p n:=hS n (List.contains_iff_mem.1 h.1)
  rcases Nat.lt_succ_iff_lt_or_eq.1 hj with h1 | rfl
  ·refine allAnc_sound hdc h.2 (fun i hi => ?_) j h1
   split at hi
   ·next o ho =>
    rcases List.mem_append.1 hi with h2 | h2
    ·exact hdc _ _ ho hn _ h2
    ·exact hS _ h2
   ·exact hS _ hi
  ·exact hn
def looseB (l T : List Oper) : Bool :=
 l.all (fun o => o.guard.isNone) && decide (dstsL l).Nodup &&
 (List.range l.length).all (fun i => match l[i]? with | some o => (edgesL o).all (fun j => decide (j < i)) | none => true) &&
 (List.range T.length).all (fun i => match T[i]? with | some o => (edgesL o).all (fun j => decide (j < l.length + i)) && (i == 0 || (edgesL o).contains (l.length + i - 1)) | none => true) &&
 (match T with | o :: _ => allAnc l l.length (edgesL o) | [] => false)
def costL : List Nat → Nat → (Nat → Bool) → Nat
 | [],_,_ => 0
 | c :: cs,i,f => (if f i = true then c else 0) + costL cs (i + 1) f
theorem costL_congr {cs : List Nat} : ∀ {i : Nat} {f g : Nat → Bool},(∀ j,i ≤ j → f j = g j) → costL cs i f = costL cs i g:=by
 induction cs with
 | nil => intros; rfl
 | cons c cs ih => intro i f g h; rw [costL,costL,h i (Nat.le_refl _),ih (fun j hj => h j (by omega))]
theorem costL_set {cs : List Nat} : ∀ {i j c : Nat} {f g : Nat → Bool},i ≤ j → cs[j - i]? = some c → f j = false → g j = true → (∀ t,t ≠ j → g t = f t) → costL cs i g = costL cs i f + c:=by
 induction cs with
 | nil => intro i j c f g _ h; simp at h
 | cons d cs ih =>
  intro i j c f g hij hc hf hg hfg
  rw [costL,costL]
  by_cases h : i = j
  ·subst h
   rw [Nat.sub_self] at hc
   obtain rfl : d = c:=by simpa using hc
   rw [hf,hg,costL_congr (f:=g) (g:=f) (fun t ht => hfg t (by omega))]
   simp; omega
  ·rw [hfg i h,ih (i:=i + 1) (j:=j) (by omega) (by
      rw [show j - i = (j - (i + 1)) + 1 by omega] at hc
      simpa using hc) hf hg hfg]
   omega
theorem costL_le {cs : List Nat} : ∀ {i : Nat} {f : Nat → Bool},costL cs i f ≤ cs.sum:=by
 induction cs with
 | nil => intros; simp [costL]
 | cons c cs ih => intro i f; rw [costL,List.sum_cons]; have:=ih (i:=i + 1) (f:=f); split <;> omega
theorem costL_none {cs : List Nat} : ∀ {i : Nat},costL cs i (fun _ => false) = 0:=by
 induction cs with
 | nil => intros; rfl
 | cons c cs ih => intro i; rw [costL,ih]; simp
theorem costL_all {cs : List Nat} : ∀ {i : Nat} {f : Nat → Bool},(∀ j,i ≤ j → j < i + cs.length → f j = true) → costL cs i f = cs.sum:=by
 induction cs with
 | nil => intros; rfl
 | cons c cs ih => intro i f h; rw [costL,List.sum_cons,h i (Nat.le_refl _) (by simp),ih (fun j h1 h2 => h j (by omega) (by simp; omega))]; simp
def unl (n : Nat) (listed : Array Bool) : Nat:=(List.range n).countP (fun i => !listed.getD i true)
theorem getD_true_of {listed : Array Bool} {i : Nat} (h : listed.getD i true = false) : i < listed.size:=by
 rcases Nat.lt_or_ge i listed.size with q | q
 ·exact q
 ·simp [Array.getD,Nat.not_lt.2 q] at h
theorem getD_set_eq {listed : Array Bool} {i : Nat} (h : i < listed.size) (b : Bool) : (listed.setIfInBounds i true).getD i b = true:=by simp [Array.getD,h]
theorem getD_both {listed : Array Bool} {i : Nat} (h : i < listed.size) (b c : Bool) : listed.getD i b = listed.getD i c:=by simp [Array.getD,h]
theorem unl_set {n i : Nat} {listed : Array Bool} (hi : i < n) (h : listed.getD i true = false) : unl n (listed.setIfInBounds i true) + 1 ≤ unl n listed:=by
 unfold unl
 have hlt:=getD_true_of h
 have key : ∀ m,(List.range m).countP (fun j => !(listed.setIfInBounds i true).getD j true) + (if i < m then 1 else 0) ≤ (List.range m).countP (fun j => !listed.getD j true):=by
  intro m
  induction m with
  | zero => simp
  | succ m ih =>
   rw [List.range_succ,List.countP_append,List.countP_append,List.countP_cons,List.countP_cons,List.countP_nil,List.countP_nil]
   by_cases hm : i = m
   ·subst hm
    rw [getD_set_eq hlt,h]
    simp at ih ⊢
    omega
   ·rw [getD_set_ne true hm]
    by_cases h2 : i < m
    ·have h3 : i < m + 1:=by omega
     simp only [h2,h3,if_true] at ih ⊢
     omega
    ·have h3 : ¬ i < m + 1:=by omega
     simp only [h2,h3,if_false] at ih ⊢
     omega
 have:=key n
 rw [if_pos hi] at this
 exact this
theorem wpAny_done {P : Program} {ops : Array Oper} {Q : Exit → Act → World → Prop} {listed : Array Bool} (h : ∀ j,j < ops.size → listed.getD j true = true) {a : Act} {w : World} (hq : Q .normal a w) : ∀ fuel,wpAny P .any ops Q fuel listed a w:=by
 have hr : Region.ready .any ops listed = []:=by
  cases hx : Region.ready .any ops listed with
  | nil => rfl
  | cons j js =>
   have hj : j ∈ Region.ready .any ops listed:=by rw [hx]; exact List.mem_cons_self ..
   obtain ⟨h1,o,ho,_⟩:=mem_ready.1 hj
   have hlt : j < ops.size:=(Array.getElem?_eq_some_iff.1 ho).1
   rw [h j hlt] at h1; cases h1
 intro fuel
 cases fuel with
 | zero => exact ⟨hr,hq⟩
 | succ fuel => exact ⟨fun _ => hq,fun i hi => by rw [hr] at hi; cases hi⟩
section
variable {P : Program} {R : World → World → Prop} {G : Nat → World → Prop} {K0 : Nat} {l : List Oper} {fin : Oper} {specs : List Spec} {cs : List Nat} {a : Act} {w0 : World}
structure LInv (R : World → World → Prop) (G : Nat → World → Prop) (K0 : Nat) (l : List Oper) (tn : Nat) (specs : List Spec) (cs : List Nat) (a : Act) (w0 : World) (listed : Array Bool) (a' : Act) (w' : World) : Prop where
 sz : listed.size = l.length + tn
 r : R w0 w'
 g : G (K0 + costL cs 0 (fun i => listed.getD i false)) w'
 df : a'.defers = a.defers
 ts : a'.tmps.size = a.tmps.size
 kp : ∀ t,(dstsL l).contains t = false → a'.tmps[t]? = a.tmps[t]?
 sp : ∀ i o s,l[i]? = some o → specs[i]? = some s → listed.getD i false = true → s (slotv a' o.dst) w'
 fn : ∀ j,l.length ≤ j → j < l.length + tn → listed.getD j true = false
 dc : ∀ i o,l[i]? = some o → listed.getD i true = true → ∀ j ∈ edgesL o,listed.getD j true = true
theorem nodup_get {l : List Oper} (h : (dstsL l).Nodup) : ∀ {i j : Nat} {o o' : Oper} {d : Tmp},l[i]? = some o → l[j]? = some o' → o.dst = some d → o'.dst = some d → i = j:=by
 induction l with
 | nil => intro i j o o' d h1; simp at h1
 | cons x xs ih =>
  intro i j o o' d h1 h2 h3 h4
  have hm : ∀ {k : Nat} {q : Oper},xs[k]? = some q → q.dst = some d → d ∈ dstsL xs:=fun {k q} hk hq => List.mem_filterMap.2 ⟨q,List.mem_of_getElem? hk,hq⟩
  unfold dstsL at h
  rw [List.filterMap_cons] at h
  cases i with
  | zero =>
   cases j with
   | zero => rfl
   | succ j =>
    obtain rfl : x = o:=by simpa using h1
    rw [h3] at h
    exact absurd (hm (by simpa using h2) h4) (List.nodup_cons.1 h).1
  | succ i =>
   cases j with
   | zero =>
    obtain rfl : x = o':=by simpa using h2
    rw [h4] at h
    exact absurd (hm (by simpa using h1) h3) (List.nodup_cons.1 h).1
   | succ j =>
    have hx : (dstsL xs).Nodup:=by
     split at h
     ·exact h
     ·exact (List.nodup_cons.1 h).2
    have:=ih hx (i:=i) (j:=j) (by simpa using h1) (by simpa using h2) h3 h4
    omega
theorem slotv_put_same {a : Act} {d : Tmp} {v : Value} (h : d < a.tmps.size) : slotv (a.put (some d) v) (some d) = v:=by simp [slotv,Act.put,h]
theorem slotv_put_ne {a : Act} {d d' : Tmp} {v : Value} (h : d' ≠ d) : slotv (a.put (some d) v) (some d') = slotv a (some d'):=by
 simp [slotv,Act.put,Array.getD_eq_getD_getElem?,Ne.symm h]
theorem ops_left {l T : List Oper} {i : Nat} (h : i < l.length) : (l ++ T).toArray[i]? = l[i]?:=by rw [List.getElem?_toArray,List.getElem?_append_left h]
theorem ops_right {l T : List Oper} {i : Nat} : (l ++ T).toArray[l.length + i]? = T[i]?:=by rw [List.getElem?_toArray,List.getElem?_append_right (Nat.le_add_right _ _),Nat.add_sub_cancel_left]
theorem tail_seq {Q : Exit → Act → World → Prop} {l T : List Oper} (hT : ∀ i o,T[i]? = some o → (∀ j ∈ edgesL o,j < l.length + i) ∧ (i = 0 ∨ l.length + i - 1 ∈ edgesL o)) :
    ∀ (r p : Nat),p + r = T.length → ∀ fuel listed a w,r ≤ fuel → listed.size = l.length + T.length → (∀ j,j < l.length + p → listed.getD j true = true) → (∀ j,l.length + p ≤ j → j < l.length + T.length → listed.getD j true = false) → wpList P (l ++ T).toArray Q (T.drop p) a w → wpAny P .any (l ++ T).toArray Q fuel listed a w:=by
 intro r
 induction r with
 | zero =>
  intro p hp fuel listed a w _ hsz hin _ hw
  rw [List.drop_of_length_le (by omega)] at hw
  exact wpAny_done (fun j hj => hin j (by simp at hj; omega)) hw fuel
 | succ r ih =>
  intro p hp fuel listed a w hf hsz hin hout hw
  cases fuel with
  | zero => omega
  | succ fuel =>
   have hpT : p < T.length:=by omega
   have hTp : T[p]? = some T[p]:=List.getElem?_eq_getElem hpT
   have hmem : l.length + p ∈ Region.ready .any (l ++ T).toArray listed:=mem_ready.2 ⟨hout _ (Nat.le_refl _) (by omega),T[p],by rw [ops_right,hTp],fun e he hb => by
    have:=(hT p _ hTp).1 _ (edges_mem he hb)
    rw [getD_both (by omega) false true]; exact hin _ this⟩
   refine ⟨(fun hr => by rw [hr] at hmem; cases hmem),fun i hi => ?_⟩
   obtain ⟨hif,o,ho,haft⟩:=mem_ready.1 hi
   have hilt : i < l.length + T.length:=by have:=getD_true_of hif; omega
   have hige : l.length + p ≤ i:=by
    rcases Nat.lt_or_ge i (l.length + p) with q | q
    ·rw [hin i q] at hif; cases hif
    ·exact q
   obtain ⟨d,rfl⟩ : ∃ d,i = l.length + d:=⟨i - l.length,by omega⟩
   rw [ops_right] at ho
   have hd : d = p:=by
    rcases (hT d o ho).2 with h0 | h0
    ·omega
    ·obtain ⟨e,he,hb,heq⟩:=mem_edges h0
     have h1:=haft e he hb
     rw [heq] at h1
     rcases Nat.lt_or_ge (l.length + d - 1) (l.length + p) with q | q
     ·omega
     ·rw [getD_both (by omega) false true,hout _ q (by omega)] at h1; cases h1
   subst hd
   obtain rfl : o = T[d]:=by rw [hTp] at ho; exact (Option.some.inj ho).symm
   rw [List.drop_eq_getElem_cons hpT] at hw
   unfold wpOp
   rw [ops_right,hTp]
   simp only [wpList] at hw
   have hnext : ∀ a w,wpList P (l ++ T).toArray Q (T.drop (d + 1)) a w → wpAny P .any (l ++ T).toArray Q fuel (listed.setIfInBounds (l.length + d) true) a w:=fun a w hw => ih (d + 1) (by omega) fuel _ a w (by omega) (by simp [hsz]) (fun j hj => by
    by_cases hj2 : j = l.length + d
    ·subst hj2; exact getD_set_eq (by omega) _
    ·rw [getD_set_ne true (Ne.symm hj2)]; exact hin j (by omega)) (fun j h1 h2 => by rw [getD_set_ne true (by omega)]; exact hout j (by omega) h2) hw
   show (if Region.wanted T[d] (yielded (l ++ T).toArray a.tmps) = true then _ else _)
   split at hw
   ·next hq => rw [if_pos hq]; exact hw.imp (Oper.wp_mono hnext) id
   ·next hq => rw [if_neg hq]; exact hnext _ _ hw
theorem wp_loose_any {T : List Oper} {Q : Exit → Act → World → Prop} (hB : looseB l T = true) (hds : ∀ o ∈ l,∃ d,o.dst = some d ∧ d < a.tmps.size) (hlen : specs.length = l.length) (hlc : cs.length = l.length) (htrans : ∀ a b c,R a b → R b c → R a c)
    (hstab : ∀ s ∈ specs,∀ v w w',R w w' → s v w → s v w')
    (hsteps : looseSteps (StepOK P R G K0 (K0 + cs.sum) l specs a w0) l specs cs)
    (hend : ∀ w',R w0 w' → G (K0 + cs.sum) w' → looseAll w' (fun a' => wpList P (l ++ T).toArray Q T a' w') l specs a) :
    ∀ fuel listed a' w',LInv R G K0 l T.length specs cs a w0 listed a' w' → unl (l.length + T.length) listed ≤ fuel → wpAny P .any (l ++ T).toArray Q fuel listed a' w':=by
 simp only [looseB,Bool.and_eq_true,List.all_eq_true,decide_eq_true_eq] at hB
 obtain ⟨⟨⟨⟨hg1,hnd⟩,hlex⟩,hT0⟩,hanc⟩:=hB
 have hT : ∀ i o,T[i]? = some o → (∀ j ∈ edgesL o,j < l.length + i) ∧ (i = 0 ∨ l.length + i - 1 ∈ edgesL o):=fun i o ho => by
  have h1:=hT0 i (List.mem_range.2 (List.getElem?_eq_some_iff.1 ho).1)
  rw [ho] at h1
  simp only [Bool.and_eq_true,List.all_eq_true,decide_eq_true_eq,Bool.or_eq_true,beq_iff_eq,List.contains_iff_mem] at h1
  exact h1
 have hT1 : ∃ t ts,T = t :: ts:=by
  cases T with
  | nil => cases hanc
  | cons t ts => exact ⟨t,ts,rfl⟩
 have hTl : 0 < T.length:=by obtain ⟨t,ts,rfl⟩:=hT1; simp
 intro fuel
 induction fuel with
 | zero =>
  intro listed a' w' hI hu
  exfalso
  have : 0 < unl (l.length + T.length) listed:=by
   unfold unl
   rw [List.countP_pos_iff]
   exact ⟨l.length,by simp; omega,by rw [hI.fn _ (Nat.le_refl _) (by omega)]; rfl⟩
  omega
 | succ fuel ih =>
  intro listed a' w' hI hu
  by_cases hall : ∀ j,j < l.length → listed.getD j true = true
  ·have hg:=hI.g
   rw [costL_all (fun j _ h2 => by rw [getD_both (by rw [hI.sz]; omega) false true]; exact hall j (by omega))] at hg
   have hK:=looseAll_use l specs a hlen hI.ts hI.df hI.kp (fun j o s h1 h2 => hI.sp j o s h1 h2 (by
    have hj:=(List.getElem?_eq_some_iff.1 h1).1
    rw [getD_both (by rw [hI.sz]; omega) false true]; exact hall j hj)) (hend w' hI.r hg)
   refine tail_seq hT T.length 0 (by omega) (fuel + 1) listed a' w' ?_ hI.sz (fun j hj => hall j (by omega)) (fun j h1 h2 => hI.fn j (by omega) h2) hK
   have h1 : T.length ≤ unl (l.length + T.length) listed:=by
    have key : ∀ k,k ≤ T.length → k ≤ unl (l.length + k) listed:=by
     intro k
     induction k with
     | zero => intro _; exact Nat.zero_le _
     | succ k ihk =>
      intro hk
      have h2:=ihk (by omega)
      unfold unl at h2 ⊢
      rw [show l.length + (k + 1) = (l.length + k) + 1 by omega,List.range_succ,List.countP_append,List.countP_cons,List.countP_nil,hI.fn (l.length + k) (by omega) (by omega)]
      simp at h2 ⊢; omega
    exact key _ (Nat.le_refl _)
   omega
  ·refine ⟨fun hr => ?_,fun i hi => ?_⟩
   ·exfalso
    -- the least one that has not come up may come up
    have hex : ∃ m,m < l.length ∧ listed.getD m true = false ∧ ∀ j,j < m → listed.getD j true = true:=by
     have : ∀ n,n < l.length → listed.getD n true = false → ∃ m,m < l.length ∧ listed.getD m true = false ∧ ∀ j,j < m → listed.getD j true = true:=by
      intro n
      induction n using Nat.strongRecOn with
      | _ n ihn =>
       intro hn hf
       by_cases h : ∃ j,j < n ∧ listed.getD j true = false
       ·obtain ⟨j,hj,hjf⟩:=h
        exact ihn j hj (by omega) hjf
       ·exact ⟨n,hn,hf,fun j hj => by
           cases hq : listed.getD j true
           ·exact absurd ⟨j,hj,hq⟩ h
           ·rfl⟩
     apply Decidable.byContradiction
     intro hno
     exact hall fun j hj => by
      cases hq : listed.getD j true
      ·exact absurd (this j hj hq) hno
      ·rfl
    obtain ⟨m,hm,hmf,hml⟩:=hex
    have hmem : m ∈ Region.ready .any (l ++ T).toArray listed:=by
     refine mem_ready.2 ⟨hmf,l[m],by rw [ops_left hm,List.getElem?_eq_getElem hm],fun e he hb => ?_⟩
     have h1:=hlex m (List.mem_range.2 hm)
     rw [List.getElem?_eq_getElem hm] at h1
     have h3 : e.on < m:=by simpa using (List.all_eq_true.1 h1) _ (edges_mem he hb)
     rw [getD_both (by rw [hI.sz]; omega) false true]; exact hml _ h3
    rw [hr] at hmem
    cases hmem
   ·obtain ⟨hif,o,ho,haft⟩:=mem_ready.1 hi
    have hilt : i < l.length:=by
     rcases Nat.lt_or_ge i l.length with q | q
     ·exact q
     ·exfalso
      have hi2 : i < l.length + T.length:=by have:=getD_true_of hif; rw [hI.sz] at this; exact this
      obtain ⟨d,rfl⟩ : ∃ d,i = l.length + d:=⟨i - l.length,by omega⟩
      rw [ops_right] at ho
      rcases (hT d o ho).2 with rfl | h0
      ·obtain ⟨t,ts,rfl⟩:=hT1
       obtain rfl : t = o:=by simpa using ho
       refine hall (fun j hj => ?_)
       have:=allAnc_sound (p:=fun j => listed.getD j true = true) hI.dc hanc (fun j hj => by
        obtain ⟨e,he,hb,rfl⟩:=mem_edges hj
        have h1:=haft e he hb
        have h2:=(hT 0 t rfl).1 _ hj
        rwa [getD_both (by rw [hI.sz]; simp at h2 ⊢; omega) false true] at h1) j hj
       exact this
      ·obtain ⟨e,he,hb,heq⟩:=mem_edges h0
       have h1:=haft e he hb
       rw [heq] at h1
       have hd0 : 0 < d:=by
        rcases Nat.eq_zero_or_pos d with q0 | q0
        ·subst q0
         have:=(hT 0 o ho).1 _ h0
         rcases Nat.eq_zero_or_pos l.length with z | z
         ·exact absurd (fun j hj => by omega) hall
         ·exfalso
          obtain ⟨t,ts,rfl⟩:=hT1
          obtain rfl : t = o:=by simpa using ho
          refine hall (fun j hj => ?_)
          exact allAnc_sound (p:=fun j => listed.getD j true = true) hI.dc hanc (fun j hj => by
           obtain ⟨e,he,hb,rfl⟩:=mem_edges hj
           have h1:=haft e he hb
           have h2:=(hT 0 t rfl).1 _ hj
           rwa [getD_both (by rw [hI.sz]; simp at h2 ⊢; omega) false true] at h1) j hj
        ·exact q0
       rw [getD_both (by rw [hI.sz]; omega) false true,hI.fn _ (by omega) (by omega)] at h1
       cases h1
    rw [ops_left hilt] at ho
    have hlo:=ho
    obtain ⟨s,hs⟩ : ∃ s,specs[i]? = some s:=⟨_,List.getElem?_eq_getElem (by omega)⟩
    obtain ⟨c,hc⟩ : ∃ c,cs[i]? = some c:=⟨_,List.getElem?_eq_getElem (by omega)⟩
    have hst:=looseSteps_at hsteps hlo hs hc
    have hgn : o.guard = none:=by have:=hg1 o (List.mem_of_getElem? hlo); simpa using this
    have hset:=costL_set (cs:=cs) (i:=0) (j:=i) (c:=c) (f:=fun t => listed.getD t false) (g:=fun t => (listed.setIfInBounds i true).getD t false) (Nat.zero_le _) (by simpa using hc)
     (by show listed.getD i false = false; rw [getD_both (getD_true_of hif) false true]; exact hif) (getD_set_eq (getD_true_of hif) _) (fun t ht => getD_set_ne false (Ne.symm ht))
    have hle : K0 + costL cs 0 (fun t => listed.getD t false) + c ≤ K0 + cs.sum:=by
     have:=costL_le (cs:=cs) (i:=0) (f:=fun t => (listed.setIfInBounds i true).getD t false)
     rw [hset] at this; omega
    have hrun:=hst _ a' w' (Nat.le_add_right _ _) hle hI.r hI.g (fun t ht => by
     have:=hI.kp t ht
     simp only [Array.getD_eq_getD_getElem?,this]) (depsL_of fun e he hb => by
     unfold depHold
     split
     ·next o' s' h1 h2 => exact hI.sp _ _ _ h1 h2 (haft e (by simpa using he) hb)
     ·trivial)
    unfold wpOp
    rw [ops_left hilt,ho]
    have hw : Region.wanted o (yielded (l ++ T).toArray a'.tmps) = true:=by simp [Region.wanted,hgn]
    simp only [hw,if_true]
    refine .inl (wp_of_loose hrun fun v w'' hR hG hsv => ?_)
    refine ih _ _ _ ⟨by simp [hI.sz],htrans _ _ _ hI.r hR,?_,by rw [defers_put]; exact hI.df,by rw [size_put]; exact hI.ts,fun t ht => ?_,fun j o' s' h1 h2 h3 => ?_,fun j h1 h2 => ?_,fun j o' h1 h2 q hq => ?_⟩ (by have:=unl_set (n:=l.length + T.length) (by omega) hif; omega)
    ·have hset' : costL cs 0 (fun t => (listed.setIfInBounds i true).getD t false) = costL cs 0 (fun t => listed.getD t false) + c:=hset
     rw [hset',← Nat.add_assoc]; exact hG
    ·rw [tmps_put,if_neg]
     ·exact hI.kp t ht
     ·rintro ⟨hd,_⟩
      have : t ∈ dstsL l:=List.mem_filterMap.2 ⟨o,List.mem_of_getElem? hlo,hd⟩
      rw [List.contains_iff_mem.2 this] at ht; cases ht
    ·by_cases hji : j = i
     ·subst hji
      obtain rfl : o' = o:=by rw [h1] at hlo; exact Option.some.inj hlo
      obtain rfl : s' = s:=by rw [h2] at hs; exact Option.some.inj hs
      obtain ⟨d,hd,hdl⟩:=hds o' (List.mem_of_getElem? h1)
      rw [hd,slotv_put_same (by rw [hI.ts]; exact hdl)]
      exact hsv
     ·obtain ⟨d,hd,_⟩:=hds o' (List.mem_of_getElem? h1)
      obtain ⟨d2,hd2,_⟩:=hds o (List.mem_of_getElem? hlo)
      have hne : d ≠ d2:=fun e => hji (nodup_get hnd h1 hlo hd (by rw [hd2,e]))
      rw [getD_set_ne false (Ne.symm hji)] at h3
      have h4:=hI.sp j o' s' h1 h2 h3
      rw [hd] at h4 ⊢
      rw [hd2,slotv_put_ne hne]
      exact hstab s' (List.mem_of_getElem? h2) _ _ _ hR h4
    ·rw [getD_set_ne true (by omega)]; exact hI.fn j h1 h2
    ·have hql : q < l.length:=by
        have hj:=(List.getElem?_eq_some_iff.1 h1).1
        have h5:=hlex j (List.mem_range.2 hj)
        rw [h1] at h5
        have h6 : q < j:=by simpa using (List.all_eq_true.1 h5) _ hq
        omega
     by_cases hqi : q = i
     ·subst hqi; exact getD_set_eq (getD_true_of hif) _
     ·rw [getD_set_ne true (Ne.symm hqi)]
      by_cases hji : j = i
      ·subst hji
       obtain rfl : o' = o:=by rw [h1] at hlo; exact Option.some.inj hlo
       obtain ⟨e,he,hb,rfl⟩:=mem_edges hq
       have:=haft e he hb
       rwa [getD_both (by rw [hI.sz]; omega) false true] at this
      ·rw [getD_set_ne true (Ne.symm hji)] at h2
       exact hI.dc j o' h1 h2 q hq
end
theorem looseAll_cons {w' : World} {K : Act → Prop} {o : Oper} {os : List Oper} {s : Spec} {ss : List Spec} {a : Act} (h : ∀ v,s v w' → looseAll w' K os ss (a.put o.dst v)) : looseAll w' K (o :: os) (s :: ss) a:=h
theorem looseAll_nil {w' : World} {K : Act → Prop} {ss : List Spec} {a : Act} (h : K a) : looseAll w' K [] ss a:=by cases ss <;> exact h
theorem looseSteps_cons {S : Oper → Spec → Nat → Prop} {o : Oper} {os : List Oper} {s : Spec} {ss : List Spec} {c : Nat} {cs : List Nat} (h : S o s c) (h2 : looseSteps S os ss cs) : looseSteps S (o :: os) (s :: ss) (c :: cs):=⟨h,h2⟩
theorem looseSteps_nil {S : Oper → Spec → Nat → Prop} : looseSteps S [] [] []:=trivial
theorem wp_region_loose {P : Program} {R : World → World → Prop} {G : Nat → World → Prop} (n K0 : Nat) {L : List Oper} (specs : List Spec) (cs : List Nat) {id : Nat} {Q : Exit → Act → World → Prop} {a : Act} {w : World}
    (hm : P.follows .mixedOrders = true) (hB : looseB (L.take n) (L.drop n) = true) (hds : ((L.take n).all fun o => match o.dst with | some d => decide (d < a.tmps.size) | none => false) = true)
    (hlen : specs.length = (L.take n).length) (hlc : cs.length = (L.take n).length) (hrefl : ∀ w,R w w) (htrans : ∀ a b c,R a b → R b c → R a c) (hstab : ∀ s ∈ specs,∀ v w w',R w w' → s v w → s v w')
    (hG : G K0 w.drew) (hsteps : looseSteps (StepOK P R G K0 (K0 + cs.sum) (L.take n) specs a w.drew) (L.take n) specs cs)
    (hend : ∀ w',R w.drew w' → G (K0 + cs.sum) w' → looseAll w' (fun a' => wpList P L.toArray Q (L.drop n) a' w') (L.take n) specs a) : (Code.region id L.toArray true).wp P Q a w:=by
 have hL : L = L.take n ++ L.drop n:=(List.take_append_drop n L).symm
 have hend' : ∀ w',R w.drew w' → G (K0 + cs.sum) w' → looseAll w' (fun a' => wpList P (L.take n ++ L.drop n).toArray Q (L.drop n) a' w') (L.take n) specs a:=by rw [← hL]; exact hend
 rw [hL]
 refine wp_region_any hm ?_
 have hsz : (L.take n ++ L.drop n).toArray.size = (L.take n).length + (L.drop n).length:=by rw [List.size_toArray,List.length_append]
 rw [hsz]
 have hds' : ∀ o ∈ L.take n,∃ d,o.dst = some d ∧ d < a.tmps.size:=fun o ho => by
  have:=List.all_eq_true.1 hds o ho
  cases hd : o.dst with
  | none => rw [hd] at this; cases this
  | some d => rw [hd] at this; exact ⟨d,rfl,by simpa using this⟩
 have hrep : ∀ j,j < (L.take n).length + (L.drop n).length → (Array.replicate ((L.take n).length + (L.drop n).length) false).getD j true = false:=fun j hj => by
  rw [Array.getD_eq_getD_getElem?,Array.getElem?_replicate,if_pos hj]; rfl
 refine wp_loose_any hB hds' hlen hlc htrans hstab hsteps hend' _ _ a _ ⟨Array.size_replicate,hrefl _,?_,rfl,rfl,fun _ _ => rfl,fun i o s h1 _ h => ?_,fun j _ h2 => hrep j h2,fun i o h1 h2 => ?_⟩ ?_
 ·have : costL cs 0 (fun i => (Array.replicate ((L.take n).length + (L.drop n).length) false).getD i false) = 0:=by
     rw [costL_congr (g:=fun _ => false) (fun j _ => by
      rw [Array.getD_eq_getD_getElem?,Array.getElem?_replicate]; split <;> rfl),costL_none]
  rw [this]; exact hG
 ·rw [Array.getD_eq_getD_getElem?,Array.getElem?_replicate] at h
  split at h <;> cases h
 ·have:=hrep i (by have:=(List.getElem?_eq_some_iff.1 h1).1; omega)
  rw [this] at h2; cases h2
 ·exact Nat.le_trans List.countP_le_length (by simp)
end Go.Proofs.YtfnmlffpnmmcdaaGreatDoor
namespace Go.Proofs.YtfnmlffpnmmcdaaGreatDoor
set_option maxRecDepth 100000
open Go.RowKit
def StbB (s : Spec) : Prop:=∀ v w w',Below w.heap.size w w' → s v w → s v w'
def isS (x : Value) : Spec:=fun v _ => v = x
def tabB (N n : Nat) (cs : Array Value) : Spec:=fun v w => ∃ b,v = .slice (some ⟨b,0,none⟩) n n ∧ N ≤ b ∧ b < w.heap.size ∧ ∀ i,w.cell? ⟨b,i,none⟩ = cs[i]?
theorem isS_stb (x : Value) : StbB (isS x):=fun _ _ _ _ h => h
theorem tabB_stb (N n : Nat) (cs : Array Value) : StbB (tabB N n cs):=fun _ _ _ h ⟨b,h1,h2,h3,h4⟩ => ⟨b,h1,h2,Nat.lt_of_lt_of_le h3 h.size,fun i => by rw [h.cell (p:=⟨b,i,none⟩) h3]; exact h4 i⟩
theorem tabB_new {N n : Nat} {w : World} (h : N ≤ w.heap.size) (cs : Array Value) (e : TypeId) : tabB N n cs (.slice (some ⟨w.heap.size,0,none⟩) n n) (w.alloc (.cells cs e)) :=
 ⟨w.heap.size,rfl,h,by simp,fun i => by rw [World.cell?_alloc_at _ _ _ _ rfl]⟩
theorem stbB_nil : ∀ s ∈ ([] : List Spec),StbB s:=fun _ h => by cases h
theorem stbB_cons {s : Spec} {ss : List Spec} (h : StbB s) (h2 : ∀ s ∈ ss,StbB s) : ∀ t ∈ s :: ss,StbB t:=fun t ht => by
 rcases List.mem_cons.1 ht with rfl | ht
 ·exact h
 ·exact h2 t ht
theorem below_new (w : World) (o : Obj) : Below w.heap.size w (w.alloc o):=(Below.refl _ _).alloc (Nat.le_refl _) o
theorem wp_region_makes {P : Program} (n : Nat) {L : List Oper} (specs : List Spec) (cs : List Nat) {id : Nat} {Q : Exit → Act → World → Prop} {a : Act} {w : World}
    (hm : P.follows .mixedOrders = true) (hB : looseB (L.take n) (L.drop n) = true) (hds : ((L.take n).all fun o => match o.dst with | some d => decide (d < a.tmps.size) | none => false) = true)
    (hlen : specs.length = (L.take n).length) (hlc : cs.length = (L.take n).length) (hstab : ∀ s ∈ specs,StbB s)
    (hsteps : looseSteps (StepOK P (fun w w' => Below w.heap.size w w') (fun _ _ => True) 0 (0 + cs.sum) (L.take n) specs a w.drew) (L.take n) specs cs)
    (hend : ∀ w',Below w.heap.size w w' → looseAll w' (fun a' => wpList P L.toArray Q (L.drop n) a' w') (L.take n) specs a) : (Code.region id L.toArray true).wp P Q a w :=
 wp_region_loose (R:=fun w w' => Below w.heap.size w w') (G:=fun _ _ => True) n 0 specs cs hm hB hds hlen hlc (fun _ => Below.refl _ _) (fun _ _ _ h k => Below.app h k) hstab trivial hsteps
  (fun w' h _ => hend w' ⟨h.os,h.tape,h.output,h.size,h.block⟩)
end Go.Proofs.YtfnmlffpnmmcdaaGreatDoor
namespace Go.Proofs.YtfnmlffpnmmcdaaGreatDoor
set_option maxRecDepth 100000
open Go.RowKit
theorem copyOfItem_any (A : Option Addr) (cap B : Nat) (xs : List ElItem) (w : World) (h : RdE 4 encItem w B A xs) (hl : xs.length ≤ 1048576) :
    Calls Tryz.prog 95 #[.slice A xs.length cap] w fun e w' => ∃ T cap',e = .returned (.slice T xs.length cap') ∧ OwnE 4 encItem 69 w' w.heap.size T cap' xs ∧ Below w.heap.size w w':=by
 go_enter Tryz.func95,Tryz.ntmps95
 go_wp2_with (at_builtin; refine wpList_app rfl (.const (.slice none 0 0)) (.tmp 3) _ rfl w.heap.size 69 _ 4 56 Tryz.underlying30 info_Item rfl (by omega) none A 0 0 xs.length cap B (cE 4 encItem ([] : List ElItem)) (cE 4 encItem xs) rfl rfl (Own.nil _ _ _ _ _) h (fun _ _ => encItem_one _ _) (by simp only [maxLen]; omega) (by omega) (Nat.le_refl _) ?_; intro T1 cap1 w1 hown1 hg1)
 go_ret
 exact ⟨T1,cap1,by simp,OwnE.first hown1 rfl,grown_below hg1 (fun b hb => by cases hb) (Nat.le_refl _)⟩
end Go.Proofs.YtfnmlffpnmmcdaaGreatDoor
namespace Go.Proofs.YtfnmlffpnmmcdaaGreatDoor
set_option maxRecDepth 100000
open Go.RowKit
theorem copyOfHandle_any (A : Option Addr) (cap B : Nat) (xs : List ElHandle) (w : World) (h : RdE 2 encHandle w B A xs) (hl : xs.length ≤ 1048576) :
    Calls Tryz.prog 96 #[.slice A xs.length cap] w fun e w' => ∃ T cap',e = .returned (.slice T xs.length cap') ∧ OwnE 2 encHandle 29 w' w.heap.size T cap' xs ∧ Below w.heap.size w w':=by
 go_enter Tryz.func96,Tryz.ntmps96
 go_wp2_with (at_builtin; refine wpList_app rfl (.const (.slice none 0 0)) (.tmp 3) _ rfl w.heap.size 29 _ 2 32 Tryz.underlying31 info_Handle rfl (by omega) none A 0 0 xs.length cap B (cE 2 encHandle ([] : List ElHandle)) (cE 2 encHandle xs) rfl rfl (Own.nil _ _ _ _ _) h (fun _ _ => encHandle_one _ _) (by simp only [maxLen]; omega) (by omega) (Nat.le_refl _) ?_; intro T1 cap1 w1 hown1 hg1)
 go_ret
 exact ⟨T1,cap1,by simp,OwnE.first hown1 rfl,grown_below hg1 (fun b hb => by cases hb) (Nat.le_refl _)⟩
set_option maxHeartbeats 400000 in
theorem withAtHandle_any (A : Option Addr) (cap B : Nat) (xs : List ElHandle) (k : Nat) (x : ElHandle) (w : World) (h : RdE 2 encHandle w B A xs) (hB : B ≤ w.heap.size) (hS : Shp A xs.length cap) (hk : k ≤ xs.length) (hl : xs.length ≤ 1000000) :
    Calls Tryz.prog 106 #[.slice A xs.length cap,.int .i64 k,.agg #[.string (x.1),.string (x.2)]] w fun e w' => ∃ T cap',e = .returned (.slice T (xs.take k ++ [x] ++ xs.drop k).length cap') ∧ OwnE 2 encHandle 29 w' w.heap.size T cap' (xs.take k ++ [x] ++ xs.drop k) ∧ Below w.heap.size w w':=by
 have hmk:=mk_run0 (P:=Tryz.prog) 31 29 _ _ _ Tryz.underlying31 info_Handle ((xs.length : Int) + 1) (by omega) (by omega) (by omega)
 have hlk : (xs.take k).length = k:=by simp; omega
 have hlk1 : (xs.take k ++ [x]).length = k + 1:=by simp; omega
 have hld : (xs.drop k).length = xs.length - k:=by simp
 rw [show ((xs.length : Int) + 1).toNat = xs.length + 1 by omega] at hmk
 have hb0 : Below w.heap.size w ((w.alloc (.cells #[.string (x.1),.string (x.2)] 29)).alloc (.cells (madeCells #[.string ByteArray.empty,.string ByteArray.empty] ((xs.length + 1) * 2)) 29)):=((Below.refl _ _).alloc (Nat.le_refl _) _).alloc (by simp) _
 have hm : Own ((w.alloc (.cells #[.string (x.1),.string (x.2)] 29)).alloc (.cells (madeCells #[.string ByteArray.empty,.string ByteArray.empty] ((xs.length + 1) * 2)) 29)) (w.heap.size + 1) 29 2 (some ⟨w.heap.size + 1,0,none⟩) 0 (xs.length + 1) (cE 2 encHandle ([] : List ElHandle)):=by
  have:=Own.cap0 (w.alloc (.cells #[.string (x.1),.string (x.2)] 29)) 29 2 (xs.length + 1) (w.heap.size + 1) (madeCells #[.string ByteArray.empty,.string ByteArray.empty] ((xs.length + 1) * 2)) (cE 2 encHandle ([] : List ElHandle)) (by simp) (by simp only [maxLen]; omega) (size_madeCells _ _)
  simpa using this
 have hx0 : ∀ j,j < 2 → ((w.alloc (.cells #[.string (x.1),.string (x.2)] 29)).alloc (.cells (madeCells #[.string ByteArray.empty,.string ByteArray.empty] ((xs.length + 1) * 2)) 29)).cell? ⟨w.heap.size,j,none⟩ = some (encHandle x j):=fun j hj => by
  rw [(((Below.refl (w.heap.size + 1) (w.alloc (.cells #[.string (x.1),.string (x.2)] 29))).alloc (by simp) _).cell (p:=⟨w.heap.size,j,none⟩) (by show w.heap.size < w.heap.size + 1; omega)),World.cell?_alloc_at _ _ _ _ rfl]
  rcases (by omega : j = 0 ∨ j = 1) with rfl | rfl <;> rfl
 have HL:=Lib.hid hlk; have HL1:=Lib.hid hlk1; have HLD:=Lib.hid hld
 clear hlk hlk1 hld
 rcases hS with ⟨rfl,h0,rfl⟩ | ⟨b,off,rfl,hcap,hmx⟩
 ·have hx : xs = []:=List.eq_nil_of_length_eq_zero h0
  subst hx
  obtain rfl : k = 0:=by simpa using hk
  have hlk:=HL.out
  have hlk1:=HL1.out
  have hld:=HLD.out
  have hmk1 : ∀ w : World,(Instr.makeSlice 31 (.int .i64 0) (.int .i64 1)).run Tryz.prog w = .ok (.slice (some ⟨w.heap.size,0,none⟩) 0 1) (w.alloc (.cells (madeCells #[.string ByteArray.empty,.string ByteArray.empty] 2) 29)):=fun w => hmk w
  clear hmk h
  replace hb0 : Below w.heap.size w ((w.alloc (.cells #[.string (x.1),.string (x.2)] 29)).alloc (.cells (madeCells #[.string ByteArray.empty,.string ByteArray.empty] 2) 29)):=hb0
  replace hm : Own ((w.alloc (.cells #[.string (x.1),.string (x.2)] 29)).alloc (.cells (madeCells #[.string ByteArray.empty,.string ByteArray.empty] 2) 29)) (w.heap.size + 1) 29 2 (some ⟨w.heap.size + 1,0,none⟩) 0 1 (cE 2 encHandle ([] : List ElHandle)):=hm
  replace hx0 : ∀ j,j < 2 → ((w.alloc (.cells #[.string (x.1),.string (x.2)] 29)).alloc (.cells (madeCells #[.string ByteArray.empty,.string ByteArray.empty] 2) 29)).cell? ⟨w.heap.size,j,none⟩ = some (encHandle x j):=hx0
  have hr1 : Rd ((w.alloc (.cells #[.string (x.1),.string (x.2)] 29)).alloc (.cells (madeCells #[.string ByteArray.empty,.string ByteArray.empty] 2) 29)) B 2 none 0 (cE 2 encHandle (([] : List ElHandle).take 0)):=fun h => absurd h (by omega)
  have hr2 : RdE 2 encHandle w B none (([] : List ElHandle).drop 0):=RdE.nil
  go_enter Tryz.func106,Tryz.ntmps106
  go_wp2_with (first
   | (at_builtin; refine wpList_app rfl (.tmp 12) (.tmp 15) _ rfl (w.heap.size + 1) 29 _ 2 32 Tryz.underlying31 info_Handle rfl (by omega) (some ⟨w.heap.size + 1,0,none⟩) none 0 1 0 0 B (cE 2 encHandle ([] : List ElHandle)) (cE 2 encHandle (([] : List ElHandle).take 0)) rfl rfl hm hr1 (fun _ _ => encHandle_one _ _) (by simp only [maxLen]; omega) (by omega) (by simp) ?_; intro T1 cap1 w1 hown1 hg1; have hb1:=grown_below hg1 (fun b hb => (hm.lt hb).1) (by simp);have hown1':=OwnE.first hown1 hlk; have z1:=hb1.size; simp at z1; clear hown1 hg1; have hx1:=fun j hj => (hb1.cell (p:=⟨w.heap.size,j,none⟩) (by show w.heap.size < w.heap.size + 1; omega)).trans (hx0 j hj);have cx0 : w1.cell? ⟨w.heap.size,0,none⟩ = some (Value.string (x.1)):=hx1 0 (by omega);have cx1 : w1.cell? ⟨w.heap.size,1,none⟩ = some (Value.string (x.2)):=hx1 1 (by omega))
   | (at_builtin; refine wpList_app rfl (.tmp 17) (.tmp 19) _ rfl (w.heap.size + 1) 29 _ 2 32 Tryz.underlying31 info_Handle rfl (by omega) T1 (some ⟨w1.heap.size,0,none⟩) 0 cap1 1 1 (w1.heap.size + 1) (cE 2 encHandle (([] : List ElHandle).take 0)) (encHandle x) (by simp [go_sem]) rfl (Own.below (OwnE.own hown1' hlk) ((Below.refl _ _).alloc (Nat.le_refl _) _)) (rd_elem _ _ _ _ (fun j hj => by rcases (by omega : j = 0 ∨ j = 1) with rfl | rfl <;> rfl)) (fun _ _ => encHandle_one _ _) (by simp only [maxLen]; omega) (by omega) (by simp; omega) ?_; intro T2 cap2 w2 hown2 hg2; have hb2:=((Below.refl (w.heap.size + 1) w1).alloc (by omega) _).trans (grown_below hg2 (fun b hb => (Own.lt hown1' hb).1) (by simp; omega));have hown2':=OwnE.push (by omega) hlk hown2; have z2:=hb2.size; clear hown2 hg2)
   | (at_builtin; refine wpList_app rfl (.tmp 21) (.tmp 24) _ rfl (w.heap.size + 1) 29 _ 2 32 Tryz.underlying31 info_Handle rfl (by omega) T2 none 1 cap2 0 0 B (cE 2 encHandle (([] : List ElHandle).take 0 ++ [x])) (cE 2 encHandle (([] : List ElHandle).drop 0)) rfl (by simp [go_sem]) (OwnE.own hown2' hlk1) (RdE.len ((hr2.below ((hb0.trans (hb1.mono (by omega))).mono hB)).below (hb2.mono (by omega))) hld) (fun _ _ => encHandle_one _ _) (by simp only [maxLen]; omega) (by omega) (by omega) ?_; intro T3 cap3 w3 hown3 hg3))
  go_ret
  have hown3':=OwnE.join (by omega) hlk1 hld hown3
  have hb3:=grown_below hg3 (fun b hb => (Own.lt hown2' hb).1) (by omega)
  have hfin:=Own.more (base':=w.heap.size) hown3' (by omega)
  have hbfin:=((hb0.trans (hb1.mono (by omega))).trans (hb2.mono (by omega))).trans (hb3.mono (by omega))
  first
   | exact ⟨T3,cap3,by first | (simp; done) | (simp; omega),hfin,hbfin⟩
   | (rw [List.append_assoc] at hfin; exact ⟨T3,cap3,by first | (simp; done) | (simp; omega),hfin,hbfin⟩)
 ·unfold maxLen at hmx
  by_cases hck : cap = k
  ·have hlk:=HL.out
   have hlk1:=HL1.out
   have hld:=HLD.out
   have hck2:=hck.symm
   subst hck2
   have hkl : xs.length ≤ k:=by omega
   have hld0 : (xs.drop k).length = 0:=by rw [hld]; omega
   have hr1 : Rd ((w.alloc (.cells #[.string (x.1),.string (x.2)] 29)).alloc (.cells (madeCells #[.string ByteArray.empty,.string ByteArray.empty] ((xs.length + 1) * 2)) 29)) B 2 (some ⟨b,off,none⟩) k (cE 2 encHandle (xs.take k)):=RdE.len ((h.below (hb0.mono hB)).take k) hlk
   have hr2 : RdE 2 encHandle w B (some ⟨b,off,none⟩) (xs.drop k):=fun hp => by rw [hld] at hp; omega
   go_enter Tryz.func106,Tryz.ntmps106
   go_wp2_with (first
    | (at_builtin; refine wpList_app rfl (.tmp 12) (.tmp 15) _ rfl (w.heap.size + 1) 29 _ 2 32 Tryz.underlying31 info_Handle rfl (by omega) (some ⟨w.heap.size + 1,0,none⟩) (some ⟨b,off,none⟩) 0 (xs.length + 1) k k B (cE 2 encHandle ([] : List ElHandle)) (cE 2 encHandle (xs.take k)) rfl rfl hm hr1 (fun _ _ => encHandle_one _ _) (by simp only [maxLen]; omega) (by omega) (by simp) ?_; intro T1 cap1 w1 hown1 hg1; have hb1:=grown_below hg1 (fun b hb => (hm.lt hb).1) (by simp);have hown1':=OwnE.first hown1 hlk; have z1:=hb1.size; simp at z1; clear hown1 hg1; have hx1:=fun j hj => (hb1.cell (p:=⟨w.heap.size,j,none⟩) (by show w.heap.size < w.heap.size + 1; omega)).trans (hx0 j hj);have cx0 : w1.cell? ⟨w.heap.size,0,none⟩ = some (Value.string (x.1)):=hx1 0 (by omega);have cx1 : w1.cell? ⟨w.heap.size,1,none⟩ = some (Value.string (x.2)):=hx1 1 (by omega))
    | (at_builtin; refine wpList_app rfl (.tmp 17) (.tmp 19) _ rfl (w.heap.size + 1) 29 _ 2 32 Tryz.underlying31 info_Handle rfl (by omega) T1 (some ⟨w1.heap.size,0,none⟩) k cap1 1 1 (w1.heap.size + 1) (cE 2 encHandle (xs.take k)) (encHandle x) (by simp [go_sem]) rfl (Own.below (OwnE.own hown1' hlk) ((Below.refl _ _).alloc (Nat.le_refl _) _)) (rd_elem _ _ _ _ (fun j hj => by rcases (by omega : j = 0 ∨ j = 1) with rfl | rfl <;> rfl)) (fun _ _ => encHandle_one _ _) (by simp only [maxLen]; omega) (by omega) (by simp; omega) ?_; intro T2 cap2 w2 hown2 hg2; have hb2:=((Below.refl (w.heap.size + 1) w1).alloc (by omega) _).trans (grown_below hg2 (fun b hb => (Own.lt hown1' hb).1) (by simp; omega));have hown2':=OwnE.push (by omega) hlk hown2; have z2:=hb2.size; clear hown2 hg2)
    | (at_builtin; refine wpList_app rfl (.tmp 21) (.tmp 24) _ rfl (w.heap.size + 1) 29 _ 2 32 Tryz.underlying31 info_Handle rfl (by omega) T2 (some ⟨b,off,none⟩) (k + 1) cap2 0 0 B (cE 2 encHandle (xs.take k ++ [x])) (cE 2 encHandle (xs.drop k)) rfl (by simp [go_sem]) (OwnE.own hown2' hlk1) (RdE.len ((hr2.below ((hb0.trans (hb1.mono (by omega))).mono hB)).below (hb2.mono (by omega))) hld0) (fun _ _ => encHandle_one _ _) (by simp only [maxLen]; omega) (by omega) (by omega) ?_; intro T3 cap3 w3 hown3 hg3))
   go_ret
   have hown3':=OwnE.join (by omega) hlk1 hld0 hown3
   have hb3:=grown_below hg3 (fun b hb => (Own.lt hown2' hb).1) (by omega)
   have hfin:=Own.more (base':=w.heap.size) hown3' (by omega)
   have hbfin:=((hb0.trans (hb1.mono (by omega))).trans (hb2.mono (by omega))).trans (hb3.mono (by omega))
   first
    | exact ⟨T3,cap3,by first | (simp; done) | (simp; omega),hfin,hbfin⟩
    | (rw [List.append_assoc] at hfin; exact ⟨T3,cap3,by first | (simp; done) | (simp; omega),hfin,hbfin⟩)
  ·have hlk:=HL.out
   have hlk1:=HL1.out
   have hld:=HLD.out
   have hr1 : Rd ((w.alloc (.cells #[.string (x.1),.string (x.2)] 29)).alloc (.cells (madeCells #[.string ByteArray.empty,.string ByteArray.empty] ((xs.length + 1) * 2)) 29)) B 2 (some ⟨b,off,none⟩) k (cE 2 encHandle (xs.take k)):=RdE.len ((h.below (hb0.mono hB)).take k) hlk
   have hr2 : RdE 2 encHandle w B (some ⟨b,off + k * 2,none⟩) (xs.drop k):=RdE.drop h
   go_enter Tryz.func106,Tryz.ntmps106
   go_wp2_with (first
    | (at_builtin; refine wpList_app rfl (.tmp 12) (.tmp 15) _ rfl (w.heap.size + 1) 29 _ 2 32 Tryz.underlying31 info_Handle rfl (by omega) (some ⟨w.heap.size + 1,0,none⟩) (some ⟨b,off,none⟩) 0 (xs.length + 1) k cap B (cE 2 encHandle ([] : List ElHandle)) (cE 2 encHandle (xs.take k)) rfl rfl hm hr1 (fun _ _ => encHandle_one _ _) (by simp only [maxLen]; omega) (by omega) (by simp) ?_; intro T1 cap1 w1 hown1 hg1; have hb1:=grown_below hg1 (fun b hb => (hm.lt hb).1) (by simp);have hown1':=OwnE.first hown1 hlk; have z1:=hb1.size; simp at z1; clear hown1 hg1; have hx1:=fun j hj => (hb1.cell (p:=⟨w.heap.size,j,none⟩) (by show w.heap.size < w.heap.size + 1; omega)).trans (hx0 j hj);have cx0 : w1.cell? ⟨w.heap.size,0,none⟩ = some (Value.string (x.1)):=hx1 0 (by omega);have cx1 : w1.cell? ⟨w.heap.size,1,none⟩ = some (Value.string (x.2)):=hx1 1 (by omega))
    | (at_builtin; refine wpList_app rfl (.tmp 17) (.tmp 19) _ rfl (w.heap.size + 1) 29 _ 2 32 Tryz.underlying31 info_Handle rfl (by omega) T1 (some ⟨w1.heap.size,0,none⟩) k cap1 1 1 (w1.heap.size + 1) (cE 2 encHandle (xs.take k)) (encHandle x) (by simp [go_sem]) rfl (Own.below (OwnE.own hown1' hlk) ((Below.refl _ _).alloc (Nat.le_refl _) _)) (rd_elem _ _ _ _ (fun j hj => by rcases (by omega : j = 0 ∨ j = 1) with rfl | rfl <;> rfl)) (fun _ _ => encHandle_one _ _) (by simp only [maxLen]; omega) (by omega) (by simp; omega) ?_; intro T2 cap2 w2 hown2 hg2; have hb2:=((Below.refl (w.heap.size + 1) w1).alloc (by omega) _).trans (grown_below hg2 (fun b hb => (Own.lt hown1' hb).1) (by simp; omega));have hown2':=OwnE.push (by omega) hlk hown2; have z2:=hb2.size; clear hown2 hg2)
    | (at_builtin; refine wpList_app rfl (.tmp 21) (.tmp 24) _ rfl (w.heap.size + 1) 29 _ 2 32 Tryz.underlying31 info_Handle rfl (by omega) T2 (some ⟨b,off + k * 2,none⟩) (k + 1) cap2 (xs.length - k) (cap - k) B (cE 2 encHandle (xs.take k ++ [x])) (cE 2 encHandle (xs.drop k)) rfl (by simp [go_sem]) (OwnE.own hown2' hlk1) (RdE.len ((hr2.below ((hb0.trans (hb1.mono (by omega))).mono hB)).below (hb2.mono (by omega))) hld) (fun _ _ => encHandle_one _ _) (by simp only [maxLen]; omega) (by omega) (by omega) ?_; intro T3 cap3 w3 hown3 hg3))
   go_ret
   have hown3':=OwnE.join (by omega) hlk1 hld hown3
   have hb3:=grown_below hg3 (fun b hb => (Own.lt hown2' hb).1) (by omega)
   have hfin:=Own.more (base':=w.heap.size) hown3' (by omega)
   have hbfin:=((hb0.trans (hb1.mono (by omega))).trans (hb2.mono (by omega))).trans (hb3.mono (by omega))
   first
    | exact ⟨T3,cap3,by first | (simp; done) | (simp; omega),hfin,hbfin⟩
    | (rw [List.append_assoc] at hfin; exact ⟨T3,cap3,by first | (simp; done) | (simp; omega),hfin,hbfin⟩)
end Go.Proofs.YtfnmlffpnmmcdaaGreatDoor
namespace Go.Proofs.YtfnmlffpnmmcdaaGreatDoor
set_option maxRecDepth 100000
open Go.RowKit
def ownS (base e sz n : Nat) (f : Nat → Value) : Spec:=fun v w => ∃ A c,v = .slice A n c ∧ Own w base e sz A n c f
theorem ownS_stb (base e sz n : Nat) (f : Nat → Value) : StbB (ownS base e sz n f):=fun _ _ _ h ⟨A,c,h1,h2⟩ => ⟨A,c,h1,Own.below h2 h⟩
def empS (base e sz : Nat) (f : Nat → Value) : Spec:=fun v w => ∃ b,v = .slice (some ⟨b,0,none⟩) 0 0 ∧ Own w base e sz (some ⟨b,0,none⟩) 0 0 f
theorem empS_stb (base e sz : Nat) (f : Nat → Value) : StbB (empS base e sz f):=fun _ _ _ h ⟨b,h1,h2⟩ => ⟨b,h1,Own.below h2 h⟩
theorem Own.bare {w : World} {base e sz b : Nat} {f : Nat → Value} (h : Own w base e sz (some ⟨b,0,none⟩) 0 0 f) : w.heap[b]? = some (.cells #[] e (0,0)):=by
 rcases h.2 with ⟨h2,_⟩ | ⟨g,c,cur,hv,hg,hh,hn,hc,hs,ht⟩
 ·cases h2
 ·injection hv with h1 h2 h3
  injection h1 with h1
  injection h1 with h1 _ _
  subst h1; subst h3
  have : cur = #[]:=Array.eq_empty_of_size_eq_zero (by simpa using hs)
  rw [this] at hh
  exact hh
section
variable {P : Program} {w : World}
theorem run_append0 (base : Nat) (t ty e : TypeId) (z : Value) (sz bytes : Nat) (ht : P.underlying t = some (.slice e)) (hinfo : (P.info? e).map (fun i => (i.zero,i.size,i.bytes)) = some (some z,sz,bytes))
    (hzs : z.cells.size = sz) (hsz : 0 < sz) (b : Nat) (A' : Option Addr) (m c B : Nat) (f g : Nat → Value) (hown : Own w base e sz (some ⟨b,0,none⟩) 0 0 f) (hr : Rd w B sz A' m g) (h1 : ∀ j,j < m * sz → (g j).oneCell' = true)
    (h63 : m ≤ maxLen) (hbytes : m * bytes ≤ 140737488355328) (hbase : base ≤ w.heap.size) :
    ∃ A1 cap1 w1,(Builtin.append_ #[t,t] ty #[.slice (some ⟨b,0,none⟩) 0 0,.slice A' m c]).run P w = .ok (.slice A1 m cap1) w1 ∧ Own w1 base e sz A1 m cap1 g ∧ Below w.heap.size w w1:=by
 by_cases hm : m = 0
 ·subst hm
  obtain ⟨i,hi,hz,hs,hb⟩:=info_parts hinfo
  cases A' with
  | none =>
   exact ⟨_,_,w,run_append_none base t ty e i sz ht hi _ 0 _ hown c,Own.congr hown (fun j hj => absurd hj (by simp)),Below.refl _ _⟩
  | some ad =>
   obtain ⟨w2,hrun2,h2,h3⟩:=run_append_own_spare (P:=P) (w:=w) base t ty e i sz ht hi hs b 0 0 ((List.range (0 * sz)).map f) hown ad 0 c [] (by simp) (by simp) (by simp) (Nat.le_refl _)
   have ho : Own w2 base e sz (some ⟨b,0,none⟩) 0 0 g:=by
    unfold Own
    have e0 : (List.range (0 * sz)).map g = (List.range (0 * sz)).map f ++ []:=by simp
    rw [e0]
    exact h2
   refine ⟨_,_,w2,hrun2,ho,⟨h3.os,h3.tape,h3.output,h3.size,fun k hk => ?_⟩⟩
   by_cases hkb : k = b
   ·subst hkb
    rw [Own.bare ho,Own.bare hown]
   ·exact h3.block k hk (fun e => hkb (by injection e))
 ·obtain ⟨A1,cap1,w1,hrun,h2,h3⟩:=run_append (P:=P) (w:=w) base t ty e z sz bytes ht hinfo hzs hsz (some ⟨b,0,none⟩) A' 0 0 m c B f g hown hr h1 (by omega) (by rw [Nat.zero_add]; exact hbytes) hbase
  rw [Nat.zero_add] at hrun h2
  refine ⟨A1,cap1,w1,hrun,Own.congr h2 (fun j hj => by rw [Nat.zero_mul,if_neg (Nat.not_lt_zero _),Nat.sub_zero]),?_⟩
  obtain ⟨i,hi,hz,hs,hb⟩:=info_parts hinfo
  subst hs; subst hb
  obtain ⟨b2,o2,rfl,hbB,hc⟩:=hr (by omega)
  have hnl : ((List.range (m * i.size)).map g).length = m * i.size:=by simp
  have hnews : ∀ j u,((List.range (m * i.size)).map g)[j]? = some u → w.cell? ((⟨b2,o2,none⟩ : Addr).add j) = some u:=fun j u hu => by
   have hj : j < m * i.size:=by
    have:=(List.getElem?_eq_some_iff.1 hu).1
    simpa using this
   rw [range_map_get g hj] at hu
   rw [Addr.add_lit,hc j hj,hu]
  have hgr:=run_append_grow (P:=P) w t ty e i z ht hi hz ⟨b,0,none⟩ 0 0 [] (by simp) (fun j u hu => by simp at hu) ⟨b2,o2,none⟩ m c _ hnl hnews (by omega) (by simp only [maxLen] at h63; omega) (growslice_fits (by omega) (by simpa using hbytes))
  rw [hrun] at hgr
  injection hgr with _ e2
  rw [e2]
  exact (Below.refl _ _).drew.alloc (Nat.le_refl _) _
theorem loose_app0 {k : Nat} {o : Oper} {a : Act} (s x : Operand) (t : TypeId) (ho : o.op = .call { callee:=.builtin .append,args:=#[s,x],argTypes:=#[t,t] })
    (base : Nat) (e : TypeId) (z : Value) (sz bytes : Nat) (ht : P.underlying t = some (.slice e)) (hinfo : (P.info? e).map (fun i => (i.zero,i.size,i.bytes)) = some (some z,sz,bytes))
    (hzs : z.cells.size = sz) (hsz : 0 < sz) (b : Nat) (A' : Option Addr) (m c B : Nat) (f g : Nat → Value) (hs : a.eval s = .slice (some ⟨b,0,none⟩) 0 0) (hx : a.eval x = .slice A' m c) (hown : Own w base e sz (some ⟨b,0,none⟩) 0 0 f) (hr : Rd w B sz A' m g) (h1 : ∀ j,j < m * sz → (g j).oneCell' = true)
    (h63 : m ≤ maxLen) (hbytes : m * bytes ≤ 140737488355328) (hbase : base ≤ w.heap.size) :
    looseRun P (fun w w' => Below w.heap.size w w') (fun _ _ => True) k (ownS base e sz m g) o a w:=by
 obtain ⟨A1,cap1,w1,hrun,h2,h3⟩:=run_append0 (P:=P) (w:=w) base t o.type e z sz bytes ht hinfo hzs hsz b A' m c B f g hown hr h1 h63 hbytes hbase
 unfold looseRun execOp
 simp only [ho,resolve,invoke,builtin,Sem.run_bind,Sem.run_pure,Result.andThen_ok,List.map_toArray,List.map_cons,List.map_nil,hs,hx,hrun]
 exact ⟨h3,trivial,A1,cap1,rfl,h2⟩
end
theorem own_ne {w : World} {base base' e e' sz sz' n n' c c' : Nat} {A A' : Option Addr} {f f' : Nat → Value} (h : Own w base e sz A n c f) (h' : Own w base' e' sz' A' n' c' f') (hne : e ≠ e') : ∀ b,blk A = some b → blk A' ≠ some b:=fun b hb hb' => by
 rcases h.2 with ⟨h2,_⟩ | ⟨g,_,cur,hv,_,hh,_⟩
 ·injection h2 with h2; subst h2; cases hb
 ·rcases h'.2 with ⟨h2,_⟩ | ⟨g',_,cur',hv',_,hh',_⟩
  ·injection h2 with h2; subst h2; cases hb'
  ·injection hv with hv _ _; subst hv
   injection hv' with hv' _ _; subst hv'
   simp [blk] at hb hb'
   subst hb; subst hb'
   rw [hh] at hh'
   injection hh' with h1
   injection h1 with _ h2 _
   exact hne h2
def OutBr (who : ElHandle) (is : List ElItem) (fs : List ElHandle) (nx : Int) (w : World) (e : Ending) (w' : World) : Prop:=∃ (I' : Option Addr) (ci' : Nat) (F' : Option Addr) (cf' : Nat),e = .returned (.agg #[.string who.1,.string who.2,.slice I' is.length ci',.slice F' fs.length cf',.int .i64 nx]) ∧ OwnE 4 encItem 69 w' w.heap.size I' ci' is ∧ OwnE 2 encHandle 29 w' w.heap.size F' cf' fs ∧ Below w.heap.size w w'
theorem own_set' {w : World} {base e sz n cap : Nat} {A : Option Addr} {f : Nat → Value} (h : Own w base e sz A n cap f) (b o : Nat) (u : Value) (hb : b < base) : Own (w.setCell ⟨b,o,none⟩ u) base e sz A n cap f:=by
 refine ⟨h.1,?_⟩
 rcases h.2 with h2 | ⟨g,c,cur,hv,hg,hh,r⟩
 ·exact .inl h2
 ·exact .inr ⟨g,c,cur,hv,hg,by rw [Below.heap_setCell _ _ _ _ (by show g ≠ b; omega)]; exact hh,r⟩
def zBr' : Nat → Value
 | 0 => Value.string { data:=#[] }
 | 1 => Value.string { data:=#[] }
 | 2 => Value.slice none 0 0
 | 3 => Value.slice none 0 0
 | _ => Value.int .i64 0
set_option maxHeartbeats 1600000 in
theorem copyBridge_any (who : ElHandle) (I : Option Addr) (ci : Nat) (is : List ElItem) (F : Option Addr) (cf : Nat) (fs : List ElHandle) (nx : Int) (w : World) (B : Nat) (hI : RdE 4 encItem w B I is) (hF : RdE 2 encHandle w B F fs) (hB : B ≤ w.heap.size) (hl : is.length ≤ 1048576) (hlf : fs.length ≤ 1048576) :
    Calls Tryz.prog 46 #[.agg #[Value.string who.1,Value.string who.2,Value.slice I is.length ci,Value.slice F fs.length cf,Value.int .i64 nx]] w (OutBr who is fs nx w):=by
 have zw : (w.alloc (.cells #[Value.string who.1,Value.string who.2,Value.slice I is.length ci,Value.slice F fs.length cf,Value.int .i64 nx] 33)).heap.size = w.heap.size + 1:=by simp
 have hbA : Below w.heap.size w ((w.alloc (.cells #[Value.string who.1,Value.string who.2,Value.slice I is.length ci,Value.slice F fs.length cf,Value.int .i64 nx] 33)).alloc (.cells #[Value.string { data:=#[] },Value.string { data:=#[] },Value.slice none 0 0,Value.slice none 0 0,Value.int .i64 0] 33)):=((Below.refl _ _).alloc (Nat.le_refl _) _).alloc (by simp) _
 have zA : ((w.alloc (.cells #[Value.string who.1,Value.string who.2,Value.slice I is.length ci,Value.slice F fs.length cf,Value.int .i64 nx] 33)).alloc (.cells #[Value.string { data:=#[] },Value.string { data:=#[] },Value.slice none 0 0,Value.slice none 0 0,Value.int .i64 0] 33)).heap.size = w.heap.size + 2:=by simp
 have q0 : ((w.alloc (.cells #[Value.string who.1,Value.string who.2,Value.slice I is.length ci,Value.slice F fs.length cf,Value.int .i64 nx] 33)).alloc (.cells #[Value.string { data:=#[] },Value.string { data:=#[] },Value.slice none 0 0,Value.slice none 0 0,Value.int .i64 0] 33)).cell? ⟨w.heap.size,0,none⟩ = some (Value.string who.1):=by rw [World.cell?_alloc_past _ _ _ (by simp),World.cell?_alloc_at _ _ _ _ rfl]; rfl
 have q1 : ((w.alloc (.cells #[Value.string who.1,Value.string who.2,Value.slice I is.length ci,Value.slice F fs.length cf,Value.int .i64 nx] 33)).alloc (.cells #[Value.string { data:=#[] },Value.string { data:=#[] },Value.slice none 0 0,Value.slice none 0 0,Value.int .i64 0] 33)).cell? ⟨w.heap.size,1,none⟩ = some (Value.string who.2):=by rw [World.cell?_alloc_past _ _ _ (by simp),World.cell?_alloc_at _ _ _ _ rfl]; rfl
 have q2 : ((w.alloc (.cells #[Value.string who.1,Value.string who.2,Value.slice I is.length ci,Value.slice F fs.length cf,Value.int .i64 nx] 33)).alloc (.cells #[Value.string { data:=#[] },Value.string { data:=#[] },Value.slice none 0 0,Value.slice none 0 0,Value.int .i64 0] 33)).cell? ⟨w.heap.size,2,none⟩ = some (Value.slice I is.length ci):=by rw [World.cell?_alloc_past _ _ _ (by simp),World.cell?_alloc_at _ _ _ _ rfl]; rfl
 have q3 : ((w.alloc (.cells #[Value.string who.1,Value.string who.2,Value.slice I is.length ci,Value.slice F fs.length cf,Value.int .i64 nx] 33)).alloc (.cells #[Value.string { data:=#[] },Value.string { data:=#[] },Value.slice none 0 0,Value.slice none 0 0,Value.int .i64 0] 33)).cell? ⟨w.heap.size,3,none⟩ = some (Value.slice F fs.length cf):=by rw [World.cell?_alloc_past _ _ _ (by simp),World.cell?_alloc_at _ _ _ _ rfl]; rfl
 have q4 : ((w.alloc (.cells #[Value.string who.1,Value.string who.2,Value.slice I is.length ci,Value.slice F fs.length cf,Value.int .i64 nx] 33)).alloc (.cells #[Value.string { data:=#[] },Value.string { data:=#[] },Value.slice none 0 0,Value.slice none 0 0,Value.int .i64 0] 33)).cell? ⟨w.heap.size,4,none⟩ = some (Value.int .i64 nx):=by rw [World.cell?_alloc_past _ _ _ (by simp),World.cell?_alloc_at _ _ _ _ rfl]; rfl
 have oR : Own ((w.alloc (.cells #[Value.string who.1,Value.string who.2,Value.slice I is.length ci,Value.slice F fs.length cf,Value.int .i64 nx] 33)).alloc (.cells #[Value.string { data:=#[] },Value.string { data:=#[] },Value.slice none 0 0,Value.slice none 0 0,Value.int .i64 0] 33)) (w.heap.size + 1) 33 5 (some ⟨w.heap.size + 1,0,none⟩) 1 1 zBr':=by
  have:=Own.lit (w.alloc (.cells #[Value.string who.1,Value.string who.2,Value.slice I is.length ci,Value.slice F fs.length cf,Value.int .i64 nx] 33)) 33 5 1 #[Value.string { data:=#[] },Value.string { data:=#[] },Value.slice none 0 0,Value.slice none 0 0,Value.int .i64 0] zBr' (by simp only [maxLen]; omega) rfl
  rw [zw] at this
  exact this
 clear zw
 go_enter Tryz.func46,Tryz.ntmps46
 go_wp2_with fail
 generalize ((w.alloc (.cells #[Value.string who.1,Value.string who.2,Value.slice I is.length ci,Value.slice F fs.length cf,Value.int .i64 nx] 33)).alloc (.cells #[Value.string { data:=#[] },Value.string { data:=#[] },Value.slice none 0 0,Value.slice none 0 0,Value.int .i64 0] 33)) = wA at *
 refine wp_region_makes 10 [(isS (.pointer (some ⟨w.heap.size,0,none⟩))),(isS (.agg #[.string who.1,.string who.2])),(isS (.pointer (some ⟨w.heap.size,2,none⟩))),(isS (.slice I is.length ci)),(ownS (w.heap.size + 2) 69 4 is.length (cE 4 encItem is)),(isS (.pointer (some ⟨w.heap.size,3,none⟩))),(isS (.slice F fs.length cf)),(ownS (w.heap.size + 2) 29 2 fs.length (cE 2 encHandle fs)),(isS (.pointer (some ⟨w.heap.size,4,none⟩))),(isS (.int .i64 nx))] [0,0,0,0,0,0,0,0,0,0] (by kernel_rfl) (by kernel_rfl) (by rfl) (by rfl) (by rfl) ?_ ?_ ?_
 ·repeat (first | exact stbB_nil | refine stbB_cons (by first | exact isS_stb _ | exact ownS_stb _ _ _ _ _ | exact empS_stb _ _ _ _) ?_)
 ·simp only [List.take_succ_cons,List.take_zero]
  refine looseSteps_cons (fun k a' w' hk0' hk1' hR hG hkp hd => ?_) ?_
  ·have hR0 : Below wA.drew.heap.size wA.drew w':=hR
   have hRb : Below wA.heap.size wA w':=⟨hR0.os,hR0.tape,hR0.output,hR0.size,hR0.block⟩
   have k1' : a'.tmps.getD 1 undef = .pointer (some ⟨w.heap.size,0,none⟩):=hkp 1 (by rfl)
   unfold looseRun
   go_simp
   exact ⟨Below.refl _ _,trivial,rfl⟩
  refine looseSteps_cons (fun k a' w' hk0' hk1' hR hG hkp hd => ?_) ?_
  ·have hR0 : Below wA.drew.heap.size wA.drew w':=hR
   have hRb : Below wA.heap.size wA w':=⟨hR0.os,hR0.tape,hR0.output,hR0.size,hR0.block⟩
   have e1:=hd.1 rfl
   have e1' : a'.tmps.getD 3 undef = _:=e1
   have e1q:=e1'
   rw [Array.getD_eq_getD_getElem?] at e1q
   have rr0:=(hRb.cell (p:=⟨w.heap.size,0,none⟩) (by show w.heap.size < _; omega)).trans q0
   have rr1:=(hRb.cell (p:=⟨w.heap.size,1,none⟩) (by show w.heap.size < _; omega)).trans q1
   unfold looseRun
   go_simp
   exact ⟨Below.refl _ _,trivial,rfl⟩
  refine looseSteps_cons (fun k a' w' hk0' hk1' hR hG hkp hd => ?_) ?_
  ·have hR0 : Below wA.drew.heap.size wA.drew w':=hR
   have hRb : Below wA.heap.size wA w':=⟨hR0.os,hR0.tape,hR0.output,hR0.size,hR0.block⟩
   have k1' : a'.tmps.getD 1 undef = .pointer (some ⟨w.heap.size,0,none⟩):=hkp 1 (by rfl)
   unfold looseRun
   go_simp
   exact ⟨Below.refl _ _,trivial,rfl⟩
  refine looseSteps_cons (fun k a' w' hk0' hk1' hR hG hkp hd => ?_) ?_
  ·have hR0 : Below wA.drew.heap.size wA.drew w':=hR
   have hRb : Below wA.heap.size wA w':=⟨hR0.os,hR0.tape,hR0.output,hR0.size,hR0.block⟩
   have e1:=hd.1 rfl
   have e1' : a'.tmps.getD 5 undef = _:=e1
   have e1q:=e1'
   rw [Array.getD_eq_getD_getElem?] at e1q
   have rr2:=(hRb.cell (p:=⟨w.heap.size,2,none⟩) (by show w.heap.size < _; omega)).trans q2
   unfold looseRun
   go_simp
   exact ⟨Below.refl _ _,trivial,rfl⟩
  refine looseSteps_cons (fun k a' w' hk0' hk1' hR hG hkp hd => ?_) ?_
  ·have hR0 : Below wA.drew.heap.size wA.drew w':=hR
   have hRb : Below wA.heap.size wA w':=⟨hR0.os,hR0.tape,hR0.output,hR0.size,hR0.block⟩
   have e1:=hd.1 rfl
   have e1' : a'.tmps.getD 6 undef = _:=e1
   have e1q:=e1'
   rw [Array.getD_eq_getD_getElem?] at e1q
   unfold looseRun
   go_simp
   refine ⟨rfl,(copyOfItem_any I ci B is _ (hI.below ((hbA.trans (hRb.mono (by omega))).mono hB)) hl).mono ?_⟩
   rintro e w2 ⟨T',c',rfl,o,hb⟩
   exact ⟨_,rfl,hb,trivial,_,_,rfl,Own.more o (by have:=hRb.size; omega)⟩
  refine looseSteps_cons (fun k a' w' hk0' hk1' hR hG hkp hd => ?_) ?_
  ·have hR0 : Below wA.drew.heap.size wA.drew w':=hR
   have hRb : Below wA.heap.size wA w':=⟨hR0.os,hR0.tape,hR0.output,hR0.size,hR0.block⟩
   have k1' : a'.tmps.getD 1 undef = .pointer (some ⟨w.heap.size,0,none⟩):=hkp 1 (by rfl)
   unfold looseRun
   go_simp
   exact ⟨Below.refl _ _,trivial,rfl⟩
  refine looseSteps_cons (fun k a' w' hk0' hk1' hR hG hkp hd => ?_) ?_
  ·have hR0 : Below wA.drew.heap.size wA.drew w':=hR
   have hRb : Below wA.heap.size wA w':=⟨hR0.os,hR0.tape,hR0.output,hR0.size,hR0.block⟩
   have e1:=hd.1 rfl
   have e1' : a'.tmps.getD 8 undef = _:=e1
   have e1q:=e1'
   rw [Array.getD_eq_getD_getElem?] at e1q
   have rr3:=(hRb.cell (p:=⟨w.heap.size,3,none⟩) (by show w.heap.size < _; omega)).trans q3
   unfold looseRun
   go_simp
   exact ⟨Below.refl _ _,trivial,rfl⟩
  refine looseSteps_cons (fun k a' w' hk0' hk1' hR hG hkp hd => ?_) ?_
  ·have hR0 : Below wA.drew.heap.size wA.drew w':=hR
   have hRb : Below wA.heap.size wA w':=⟨hR0.os,hR0.tape,hR0.output,hR0.size,hR0.block⟩
   have e1:=hd.1 rfl
   have e1' : a'.tmps.getD 9 undef = _:=e1
   have e1q:=e1'
   rw [Array.getD_eq_getD_getElem?] at e1q
   unfold looseRun
   go_simp
   refine ⟨rfl,(copyOfHandle_any F cf B fs _ (hF.below ((hbA.trans (hRb.mono (by omega))).mono hB)) hlf).mono ?_⟩
   rintro e w2 ⟨T',c',rfl,o,hb⟩
   exact ⟨_,rfl,hb,trivial,_,_,rfl,Own.more o (by have:=hRb.size; omega)⟩
  refine looseSteps_cons (fun k a' w' hk0' hk1' hR hG hkp hd => ?_) ?_
  ·have hR0 : Below wA.drew.heap.size wA.drew w':=hR
   have hRb : Below wA.heap.size wA w':=⟨hR0.os,hR0.tape,hR0.output,hR0.size,hR0.block⟩
   have k1' : a'.tmps.getD 1 undef = .pointer (some ⟨w.heap.size,0,none⟩):=hkp 1 (by rfl)
   unfold looseRun
   go_simp
   exact ⟨Below.refl _ _,trivial,rfl⟩
  refine looseSteps_cons (fun k a' w' hk0' hk1' hR hG hkp hd => ?_) ?_
  ·have hR0 : Below wA.drew.heap.size wA.drew w':=hR
   have hRb : Below wA.heap.size wA w':=⟨hR0.os,hR0.tape,hR0.output,hR0.size,hR0.block⟩
   have e1:=hd.1 rfl
   have e1' : a'.tmps.getD 11 undef = _:=e1
   have e1q:=e1'
   rw [Array.getD_eq_getD_getElem?] at e1q
   have rr4:=(hRb.cell (p:=⟨w.heap.size,4,none⟩) (by show w.heap.size < _; omega)).trans q4
   unfold looseRun
   go_simp
   exact ⟨Below.refl _ _,trivial,rfl⟩
  exact looseSteps_nil
 ·intro w3 hb3
  simp only [List.take_succ_cons,List.take_zero,List.drop_succ_cons,List.drop_zero]
  refine looseAll_cons fun v3 h3 => ?_
  refine looseAll_cons fun v4 h4 => ?_
  refine looseAll_cons fun v5 h5 => ?_
  refine looseAll_cons fun v6 h6 => ?_
  refine looseAll_cons fun v7 h7 => ?_
  refine looseAll_cons fun v8 h8 => ?_
  refine looseAll_cons fun v9 h9 => ?_
  refine looseAll_cons fun v10 h10 => ?_
  refine looseAll_cons fun v11 h11 => ?_
  refine looseAll_cons fun v12 h12 => ?_
  refine looseAll_nil ?_
  have e1 : v4 = .agg #[.string who.1,.string who.2]:=h4
  have e2 : v12 = .int .i64 nx:=h12
  subst e1 e2
  obtain ⟨I',ci',rfl,oI⟩:=h7
  obtain ⟨F',cf',rfl,oF⟩:=h10
  clear h3 h4 h5 h6 h8 h9 h11 h12
  have oR3:=Own.below oR hb3
  have k3:=hbA.trans (hb3.mono hbA.size)
  have r0:=oR3.cell rfl (j:=0) (by omega)
  have rf0:=oR3.frozen rfl 0
  have r1:=oR3.cell rfl (j:=1) (by omega)
  have rf1:=oR3.frozen rfl 1
  have r2:=oR3.cell rfl (j:=2) (by omega)
  have rf2:=oR3.frozen rfl 2
  have r3:=oR3.cell rfl (j:=3) (by omega)
  have rf3:=oR3.frozen rfl 3
  have r4:=oR3.cell rfl (j:=4) (by omega)
  have rf4:=oR3.frozen rfl 4
  simp only [zBr'] at r0 r1 r2 r3 r4
  have F1:=(own_set' (own_set' (own_set' (own_set' (own_set' oI (w.heap.size + 1) 0 (Value.string who.1) (by omega)) (w.heap.size + 1) 1 (Value.string who.2) (by omega)) (w.heap.size + 1) 2 (Value.slice I' is.length ci') (by omega)) (w.heap.size + 1) 3 (Value.slice F' fs.length cf') (by omega)) (w.heap.size + 1) 4 (Value.int .i64 nx) (by omega))
  have F2:=(own_set' (own_set' (own_set' (own_set' (own_set' oF (w.heap.size + 1) 0 (Value.string who.1) (by omega)) (w.heap.size + 1) 1 (Value.string who.2) (by omega)) (w.heap.size + 1) 2 (Value.slice I' is.length ci') (by omega)) (w.heap.size + 1) 3 (Value.slice F' fs.length cf') (by omega)) (w.heap.size + 1) 4 (Value.int .i64 nx) (by omega))
  have K3:=(((((k3.setCell (p:=⟨w.heap.size + 1,0,none⟩) (by show w.heap.size ≤ w.heap.size + 1; omega) (Value.string who.1)).setCell (p:=⟨w.heap.size + 1,1,none⟩) (by show w.heap.size ≤ w.heap.size + 1; omega) (Value.string who.2)).setCell (p:=⟨w.heap.size + 1,2,none⟩) (by show w.heap.size ≤ w.heap.size + 1; omega) (Value.slice I' is.length ci')).setCell (p:=⟨w.heap.size + 1,3,none⟩) (by show w.heap.size ≤ w.heap.size + 1; omega) (Value.slice F' fs.length cf')).setCell (p:=⟨w.heap.size + 1,4,none⟩) (by show w.heap.size ≤ w.heap.size + 1; omega) (Value.int .i64 nx))
  clear q0 q1 q2 q3 q4 oR oI oF
  simp only [Act.put,List.setIfInBounds_toArray,List.set_cons_zero,List.set_cons_succ]
  go_wp2_with fail
  exact bodyPost_ret (v:=.agg #[Value.string who.1,Value.string who.2,Value.slice I' is.length ci',Value.slice F' fs.length cf',Value.int .i64 nx]) (by simp [results,Tryz.results46,go_sem,r0,r1,r2,r3,r4]) rfl ⟨I',ci',F',cf',rfl,Own.more F1 (by omega),Own.more F2 (by omega),K3⟩
set_option maxHeartbeats 1600000 in
theorem l34Copy_any (who : ElHandle) (I : Option Addr) (ci : Nat) (is : List ElItem) (F : Option Addr) (cf : Nat) (fs : List ElHandle) (nx : Int) (w : World) (B : Nat) (hI : RdE 4 encItem w B I is) (hF : RdE 2 encHandle w B F fs) (hB : B ≤ w.heap.size) (hl : is.length ≤ 1048576) (hlf : fs.length ≤ 1048576) :
    Calls Tryz.prog 34 #[.agg #[Value.string who.1,Value.string who.2,Value.slice I is.length ci,Value.slice F fs.length cf,Value.int .i64 nx]] w (OutBr who is fs nx w):=by
 have zw : (w.alloc (.cells #[Value.string who.1,Value.string who.2,Value.slice I is.length ci,Value.slice F fs.length cf,Value.int .i64 nx] 33)).heap.size = w.heap.size + 1:=by simp
 have hbA : Below w.heap.size w ((w.alloc (.cells #[Value.string who.1,Value.string who.2,Value.slice I is.length ci,Value.slice F fs.length cf,Value.int .i64 nx] 33)).alloc (.cells #[Value.string { data:=#[] },Value.string { data:=#[] },Value.slice none 0 0,Value.slice none 0 0,Value.int .i64 0] 33)):=((Below.refl _ _).alloc (Nat.le_refl _) _).alloc (by simp) _
 have zA : ((w.alloc (.cells #[Value.string who.1,Value.string who.2,Value.slice I is.length ci,Value.slice F fs.length cf,Value.int .i64 nx] 33)).alloc (.cells #[Value.string { data:=#[] },Value.string { data:=#[] },Value.slice none 0 0,Value.slice none 0 0,Value.int .i64 0] 33)).heap.size = w.heap.size + 2:=by simp
 have q0 : ((w.alloc (.cells #[Value.string who.1,Value.string who.2,Value.slice I is.length ci,Value.slice F fs.length cf,Value.int .i64 nx] 33)).alloc (.cells #[Value.string { data:=#[] },Value.string { data:=#[] },Value.slice none 0 0,Value.slice none 0 0,Value.int .i64 0] 33)).cell? ⟨w.heap.size,0,none⟩ = some (Value.string who.1):=by rw [World.cell?_alloc_past _ _ _ (by simp),World.cell?_alloc_at _ _ _ _ rfl]; rfl
 have q1 : ((w.alloc (.cells #[Value.string who.1,Value.string who.2,Value.slice I is.length ci,Value.slice F fs.length cf,Value.int .i64 nx] 33)).alloc (.cells #[Value.string { data:=#[] },Value.string { data:=#[] },Value.slice none 0 0,Value.slice none 0 0,Value.int .i64 0] 33)).cell? ⟨w.heap.size,1,none⟩ = some (Value.string who.2):=by rw [World.cell?_alloc_past _ _ _ (by simp),World.cell?_alloc_at _ _ _ _ rfl]; rfl
 have q2 : ((w.alloc (.cells #[Value.string who.1,Value.string who.2,Value.slice I is.length ci,Value.slice F fs.length cf,Value.int .i64 nx] 33)).alloc (.cells #[Value.string { data:=#[] },Value.string { data:=#[] },Value.slice none 0 0,Value.slice none 0 0,Value.int .i64 0] 33)).cell? ⟨w.heap.size,2,none⟩ = some (Value.slice I is.length ci):=by rw [World.cell?_alloc_past _ _ _ (by simp),World.cell?_alloc_at _ _ _ _ rfl]; rfl
 have q3 : ((w.alloc (.cells #[Value.string who.1,Value.string who.2,Value.slice I is.length ci,Value.slice F fs.length cf,Value.int .i64 nx] 33)).alloc (.cells #[Value.string { data:=#[] },Value.string { data:=#[] },Value.slice none 0 0,Value.slice none 0 0,Value.int .i64 0] 33)).cell? ⟨w.heap.size,3,none⟩ = some (Value.slice F fs.length cf):=by rw [World.cell?_alloc_past _ _ _ (by simp),World.cell?_alloc_at _ _ _ _ rfl]; rfl
 have q4 : ((w.alloc (.cells #[Value.string who.1,Value.string who.2,Value.slice I is.length ci,Value.slice F fs.length cf,Value.int .i64 nx] 33)).alloc (.cells #[Value.string { data:=#[] },Value.string { data:=#[] },Value.slice none 0 0,Value.slice none 0 0,Value.int .i64 0] 33)).cell? ⟨w.heap.size,4,none⟩ = some (Value.int .i64 nx):=by rw [World.cell?_alloc_past _ _ _ (by simp),World.cell?_alloc_at _ _ _ _ rfl]; rfl
 have oR : Own ((w.alloc (.cells #[Value.string who.1,Value.string who.2,Value.slice I is.length ci,Value.slice F fs.length cf,Value.int .i64 nx] 33)).alloc (.cells #[Value.string { data:=#[] },Value.string { data:=#[] },Value.slice none 0 0,Value.slice none 0 0,Value.int .i64 0] 33)) (w.heap.size + 1) 33 5 (some ⟨w.heap.size + 1,0,none⟩) 1 1 zBr':=by
  have:=Own.lit (w.alloc (.cells #[Value.string who.1,Value.string who.2,Value.slice I is.length ci,Value.slice F fs.length cf,Value.int .i64 nx] 33)) 33 5 1 #[Value.string { data:=#[] },Value.string { data:=#[] },Value.slice none 0 0,Value.slice none 0 0,Value.int .i64 0] zBr' (by simp only [maxLen]; omega) rfl
  rw [zw] at this
  exact this
 clear zw
 go_enter Tryz.func34,Tryz.ntmps34
 go_wp2_with fail
 generalize ((w.alloc (.cells #[Value.string who.1,Value.string who.2,Value.slice I is.length ci,Value.slice F fs.length cf,Value.int .i64 nx] 33)).alloc (.cells #[Value.string { data:=#[] },Value.string { data:=#[] },Value.slice none 0 0,Value.slice none 0 0,Value.int .i64 0] 33)) = wA at *
 refine wp_region_makes 12 [(isS (.pointer (some ⟨w.heap.size,0,none⟩))),(isS (.agg #[.string who.1,.string who.2])),(empS (w.heap.size + 2) 69 4 (cE 4 encItem ([] : List ElItem))),(isS (.pointer (some ⟨w.heap.size,2,none⟩))),(isS (.slice I is.length ci)),(ownS (w.heap.size + 2) 69 4 is.length (cE 4 encItem is)),(empS (w.heap.size + 2) 29 2 (cE 2 encHandle ([] : List ElHandle))),(isS (.pointer (some ⟨w.heap.size,3,none⟩))),(isS (.slice F fs.length cf)),(ownS (w.heap.size + 2) 29 2 fs.length (cE 2 encHandle fs)),(isS (.pointer (some ⟨w.heap.size,4,none⟩))),(isS (.int .i64 nx))] [0,0,0,0,0,0,0,0,0,0,0,0] (by kernel_rfl) (by kernel_rfl) (by rfl) (by rfl) (by rfl) ?_ ?_ ?_
 ·repeat (first | exact stbB_nil | refine stbB_cons (by first | exact isS_stb _ | exact ownS_stb _ _ _ _ _ | exact empS_stb _ _ _ _) ?_)
 ·simp only [List.take_succ_cons,List.take_zero]
  refine looseSteps_cons (fun k a' w' hk0' hk1' hR hG hkp hd => ?_) ?_
  ·have hR0 : Below wA.drew.heap.size wA.drew w':=hR
   have hRb : Below wA.heap.size wA w':=⟨hR0.os,hR0.tape,hR0.output,hR0.size,hR0.block⟩
   have k1' : a'.tmps.getD 1 undef = .pointer (some ⟨w.heap.size,0,none⟩):=hkp 1 (by rfl)
   unfold looseRun
   go_simp
   exact ⟨Below.refl _ _,trivial,rfl⟩
  refine looseSteps_cons (fun k a' w' hk0' hk1' hR hG hkp hd => ?_) ?_
  ·have hR0 : Below wA.drew.heap.size wA.drew w':=hR
   have hRb : Below wA.heap.size wA w':=⟨hR0.os,hR0.tape,hR0.output,hR0.size,hR0.block⟩
   have e1:=hd.1 rfl
   have e1' : a'.tmps.getD 3 undef = _:=e1
   have e1q:=e1'
   rw [Array.getD_eq_getD_getElem?] at e1q
   have rr0:=(hRb.cell (p:=⟨w.heap.size,0,none⟩) (by show w.heap.size < _; omega)).trans q0
   have rr1:=(hRb.cell (p:=⟨w.heap.size,1,none⟩) (by show w.heap.size < _; omega)).trans q1
   unfold looseRun
   go_simp
   exact ⟨Below.refl _ _,trivial,rfl⟩
  refine looseSteps_cons (fun k a' w' hk0' hk1' hR hG hkp hd => ?_) ?_
  ·have hR0 : Below wA.drew.heap.size wA.drew w':=hR
   have hRb : Below wA.heap.size wA w':=⟨hR0.os,hR0.tape,hR0.output,hR0.size,hR0.block⟩
   unfold looseRun
   go_simp
   exact ⟨below_new _ _,trivial,_,rfl,Own.more (Own.lit _ 69 4 0 #[] (cE 4 encItem ([] : List ElItem)) (Nat.zero_le _) rfl) (by have:=hRb.size; omega)⟩
  refine looseSteps_cons (fun k a' w' hk0' hk1' hR hG hkp hd => ?_) ?_
  ·have hR0 : Below wA.drew.heap.size wA.drew w':=hR
   have hRb : Below wA.heap.size wA w':=⟨hR0.os,hR0.tape,hR0.output,hR0.size,hR0.block⟩
   have k1' : a'.tmps.getD 1 undef = .pointer (some ⟨w.heap.size,0,none⟩):=hkp 1 (by rfl)
   unfold looseRun
   go_simp
   exact ⟨Below.refl _ _,trivial,rfl⟩
  refine looseSteps_cons (fun k a' w' hk0' hk1' hR hG hkp hd => ?_) ?_
  ·have hR0 : Below wA.drew.heap.size wA.drew w':=hR
   have hRb : Below wA.heap.size wA w':=⟨hR0.os,hR0.tape,hR0.output,hR0.size,hR0.block⟩
   have e1:=hd.1 rfl
   have e1' : a'.tmps.getD 6 undef = _:=e1
   have e1q:=e1'
   rw [Array.getD_eq_getD_getElem?] at e1q
   have rr2:=(hRb.cell (p:=⟨w.heap.size,2,none⟩) (by show w.heap.size < _; omega)).trans q2
   unfold looseRun
   go_simp
   exact ⟨Below.refl _ _,trivial,rfl⟩
  refine looseSteps_cons (fun k a' w' hk0' hk1' hR hG hkp hd => ?_) ?_
  ·have hR0 : Below wA.drew.heap.size wA.drew w':=hR
   have hRb : Below wA.heap.size wA w':=⟨hR0.os,hR0.tape,hR0.output,hR0.size,hR0.block⟩
   obtain ⟨b0,e1,o1⟩:=hd.1 rfl
   have e2:=hd.2.1 rfl
   have e1' : a'.tmps.getD 5 undef = _:=e1
   have e2' : a'.tmps.getD 7 undef = _:=e2
   exact loose_app0 (.tmp 5) (.tmp 7) _ rfl (w.heap.size + 2) 69 _ 4 56 Tryz.underlying30 info_Item rfl (by omega) b0 I is.length ci B (cE 4 encItem ([] : List ElItem)) (cE 4 encItem is) e1' e2' o1 (hI.below ((hbA.trans (hRb.mono (by omega))).mono hB)) (fun _ _ => encItem_one _ _) (by simp only [maxLen]; omega) (by omega) (by have:=hRb.size; omega)
  refine looseSteps_cons (fun k a' w' hk0' hk1' hR hG hkp hd => ?_) ?_
  ·have hR0 : Below wA.drew.heap.size wA.drew w':=hR
   have hRb : Below wA.heap.size wA w':=⟨hR0.os,hR0.tape,hR0.output,hR0.size,hR0.block⟩
   unfold looseRun
   go_simp
   exact ⟨below_new _ _,trivial,_,rfl,Own.more (Own.lit _ 29 2 0 #[] (cE 2 encHandle ([] : List ElHandle)) (Nat.zero_le _) rfl) (by have:=hRb.size; omega)⟩
  refine looseSteps_cons (fun k a' w' hk0' hk1' hR hG hkp hd => ?_) ?_
  ·have hR0 : Below wA.drew.heap.size wA.drew w':=hR
   have hRb : Below wA.heap.size wA w':=⟨hR0.os,hR0.tape,hR0.output,hR0.size,hR0.block⟩
   have k1' : a'.tmps.getD 1 undef = .pointer (some ⟨w.heap.size,0,none⟩):=hkp 1 (by rfl)
   unfold looseRun
   go_simp
   exact ⟨Below.refl _ _,trivial,rfl⟩
  refine looseSteps_cons (fun k a' w' hk0' hk1' hR hG hkp hd => ?_) ?_
  ·have hR0 : Below wA.drew.heap.size wA.drew w':=hR
   have hRb : Below wA.heap.size wA w':=⟨hR0.os,hR0.tape,hR0.output,hR0.size,hR0.block⟩
   have e1:=hd.1 rfl
   have e1' : a'.tmps.getD 10 undef = _:=e1
   have e1q:=e1'
   rw [Array.getD_eq_getD_getElem?] at e1q
   have rr3:=(hRb.cell (p:=⟨w.heap.size,3,none⟩) (by show w.heap.size < _; omega)).trans q3
   unfold looseRun
   go_simp
   exact ⟨Below.refl _ _,trivial,rfl⟩
  refine looseSteps_cons (fun k a' w' hk0' hk1' hR hG hkp hd => ?_) ?_
  ·have hR0 : Below wA.drew.heap.size wA.drew w':=hR
   have hRb : Below wA.heap.size wA w':=⟨hR0.os,hR0.tape,hR0.output,hR0.size,hR0.block⟩
   obtain ⟨b0,e1,o1⟩:=hd.1 rfl
   have e2:=hd.2.1 rfl
   have e1' : a'.tmps.getD 9 undef = _:=e1
   have e2' : a'.tmps.getD 11 undef = _:=e2
   exact loose_app0 (.tmp 9) (.tmp 11) _ rfl (w.heap.size + 2) 29 _ 2 32 Tryz.underlying31 info_Handle rfl (by omega) b0 F fs.length cf B (cE 2 encHandle ([] : List ElHandle)) (cE 2 encHandle fs) e1' e2' o1 (hF.below ((hbA.trans (hRb.mono (by omega))).mono hB)) (fun _ _ => encHandle_one _ _) (by simp only [maxLen]; omega) (by omega) (by have:=hRb.size; omega)
  refine looseSteps_cons (fun k a' w' hk0' hk1' hR hG hkp hd => ?_) ?_
  ·have hR0 : Below wA.drew.heap.size wA.drew w':=hR
   have hRb : Below wA.heap.size wA w':=⟨hR0.os,hR0.tape,hR0.output,hR0.size,hR0.block⟩
   have k1' : a'.tmps.getD 1 undef = .pointer (some ⟨w.heap.size,0,none⟩):=hkp 1 (by rfl)
   unfold looseRun
   go_simp
   exact ⟨Below.refl _ _,trivial,rfl⟩
  refine looseSteps_cons (fun k a' w' hk0' hk1' hR hG hkp hd => ?_) ?_
  ·have hR0 : Below wA.drew.heap.size wA.drew w':=hR
   have hRb : Below wA.heap.size wA w':=⟨hR0.os,hR0.tape,hR0.output,hR0.size,hR0.block⟩
   have e1:=hd.1 rfl
   have e1' : a'.tmps.getD 13 undef = _:=e1
   have e1q:=e1'
   rw [Array.getD_eq_getD_getElem?] at e1q
   have rr4:=(hRb.cell (p:=⟨w.heap.size,4,none⟩) (by show w.heap.size < _; omega)).trans q4
   unfold looseRun
   go_simp
   exact ⟨Below.refl _ _,trivial,rfl⟩
  exact looseSteps_nil
 ·intro w3 hb3
  simp only [List.take_succ_cons,List.take_zero,List.drop_succ_cons,List.drop_zero]
  refine looseAll_cons fun v3 h3 => ?_
  refine looseAll_cons fun v4 h4 => ?_
  refine looseAll_cons fun v5 h5 => ?_
  refine looseAll_cons fun v6 h6 => ?_
  refine looseAll_cons fun v7 h7 => ?_
  refine looseAll_cons fun v8 h8 => ?_
  refine looseAll_cons fun v9 h9 => ?_
  refine looseAll_cons fun v10 h10 => ?_
  refine looseAll_cons fun v11 h11 => ?_
  refine looseAll_cons fun v12 h12 => ?_
  refine looseAll_cons fun v13 h13 => ?_
  refine looseAll_cons fun v14 h14 => ?_
  refine looseAll_nil ?_
  have e1 : v4 = .agg #[.string who.1,.string who.2]:=h4
  have e2 : v14 = .int .i64 nx:=h14
  subst e1 e2
  obtain ⟨I',ci',rfl,oI⟩:=h8
  obtain ⟨F',cf',rfl,oF⟩:=h12
  clear h3 h4 h5 h6 h7 h9 h10 h11 h13 h14
  have oR3:=Own.below oR hb3
  have k3:=hbA.trans (hb3.mono hbA.size)
  have r0:=oR3.cell rfl (j:=0) (by omega)
  have rf0:=oR3.frozen rfl 0
  have r1:=oR3.cell rfl (j:=1) (by omega)
  have rf1:=oR3.frozen rfl 1
  have r2:=oR3.cell rfl (j:=2) (by omega)
  have rf2:=oR3.frozen rfl 2
  have r3:=oR3.cell rfl (j:=3) (by omega)
  have rf3:=oR3.frozen rfl 3
  have r4:=oR3.cell rfl (j:=4) (by omega)
  have rf4:=oR3.frozen rfl 4
  simp only [zBr'] at r0 r1 r2 r3 r4
  have F1:=(own_set' (own_set' (own_set' (own_set' (own_set' oI (w.heap.size + 1) 0 (Value.string who.1) (by omega)) (w.heap.size + 1) 1 (Value.string who.2) (by omega)) (w.heap.size + 1) 2 (Value.slice I' is.length ci') (by omega)) (w.heap.size + 1) 3 (Value.slice F' fs.length cf') (by omega)) (w.heap.size + 1) 4 (Value.int .i64 nx) (by omega))
  have F2:=(own_set' (own_set' (own_set' (own_set' (own_set' oF (w.heap.size + 1) 0 (Value.string who.1) (by omega)) (w.heap.size + 1) 1 (Value.string who.2) (by omega)) (w.heap.size + 1) 2 (Value.slice I' is.length ci') (by omega)) (w.heap.size + 1) 3 (Value.slice F' fs.length cf') (by omega)) (w.heap.size + 1) 4 (Value.int .i64 nx) (by omega))
  have K3:=(((((k3.setCell (p:=⟨w.heap.size + 1,0,none⟩) (by show w.heap.size ≤ w.heap.size + 1; omega) (Value.string who.1)).setCell (p:=⟨w.heap.size + 1,1,none⟩) (by show w.heap.size ≤ w.heap.size + 1; omega) (Value.string who.2)).setCell (p:=⟨w.heap.size + 1,2,none⟩) (by show w.heap.size ≤ w.heap.size + 1; omega) (Value.slice I' is.length ci')).setCell (p:=⟨w.heap.size + 1,3,none⟩) (by show w.heap.size ≤ w.heap.size + 1; omega) (Value.slice F' fs.length cf')).setCell (p:=⟨w.heap.size + 1,4,none⟩) (by show w.heap.size ≤ w.heap.size + 1; omega) (Value.int .i64 nx))
  clear q0 q1 q2 q3 q4 oR oI oF
  simp only [Act.put,List.setIfInBounds_toArray,List.set_cons_zero,List.set_cons_succ]
  go_wp2_with fail
  exact bodyPost_ret (v:=.agg #[Value.string who.1,Value.string who.2,Value.slice I' is.length ci',Value.slice F' fs.length cf',Value.int .i64 nx]) (by simp [results,Tryz.results34,go_sem,r0,r1,r2,r3,r4]) rfl ⟨I',ci',F',cf',rfl,Own.more F1 (by omega),Own.more F2 (by omega),K3⟩
end Go.Proofs.YtfnmlffpnmmcdaaGreatDoor
namespace Go.Proofs.YtfnmlffpnmmcdaaGreatDoor
set_option maxRecDepth 100000
open Go.RowKit
def OutBl (base : Nat) (r : ElBr × ByteArray) (w : World) (e : Ending) (w' : World) : Prop:=∃ (I' : Option Addr) (ci' : Nat) (F' : Option Addr) (cf' : Nat),e = .returned (.tuple #[.agg #[.string r.1.1.1,.string r.1.1.2,.slice I' r.1.2.1.length ci',.slice F' r.1.2.2.1.length cf',.int .i64 r.1.2.2.2],.string r.2]) ∧ OwnE 4 encItem 69 w' base I' ci' r.1.2.1 ∧ OwnE 2 encHandle 29 w' base F' cf' r.1.2.2.1 ∧ Below w.heap.size w w'
theorem OwnE.capLe {α : Type} [Inhabited α] {sz : Nat} {enc : α → Nat → Value} {e : TypeId} {w : World} {base cap : Nat} {A : Option Addr} {xs : List α} (h : OwnE sz enc e w base A cap xs) : xs.length ≤ cap:=by
 rcases Own.shp h with ⟨_,h1,_⟩ | ⟨_,_,_,h1,_⟩
 ·omega
 ·exact h1
theorem own_setN {w : World} {base e sz n cap : Nat} {A : Option Addr} {f : Nat → Value} (h : Own w base e sz A n cap f) (b o : Nat) (u : Value) (hb : ∀ b',blk A = some b' → b' ≠ b) : Own (w.setCell ⟨b,o,none⟩ u) base e sz A n cap f :=
 Own.keepB h fun b' hb' => Below.heap_setCell _ _ _ _ (by exact hb b' hb')
theorem told_ac {who : ElHandle} {nx : Int} {is js : List ElItem} (hw : hvB who = true) (hi : fdB is = true) (hj : fdB js = true) (hn : inB nx 0 1000000 = true) (hp : 0 < (tcK is js).length) :
    ∃ (c : Nat) (key : ByteArray),c < 6 ∧ gt (tcOf who nx is js) 0 = ((c : Int),nx,who.1,who.2,key) ∧ acB (c : Int) nx who key = true:=by
 obtain ⟨h1,h2⟩:=tcK_mem hi hj (gt_mem hp)
 obtain ⟨n0,n1⟩:=inB_of hn
 refine ⟨(gt (tcK is js) 0).1.toNat,(gt (tcK is js) 0).2,by omega,?_,?_⟩
 ·unfold tcOf
  rw [acts_head who nx hp]
  rw [show (((gt (tcK is js) 0).1.toNat : Nat) : Int) = (gt (tcK is js) 0).1 by omega]
 ·unfold acB
  rw [inB_true (by omega) (by omega),inB_true (by omega) (by omega),hw,h2]; rfl
def bxC (who : ElHandle) (I : Option Addr) (n ci : Nat) (F : Option Addr) (m cf : Nat) (nx : Int) : Nat → Value
 | 0 => .string who.1
 | 1 => .string who.2
 | 2 => .slice I n ci
 | 3 => .slice F m cf
 | _ => .int .i64 nx
set_option maxHeartbeats 3200000 in
theorem tellItems_any (js : List ElItem) (J : Option Addr) (cj : Nat) (who : ElHandle) (is : List ElItem) (fs : List ElHandle) (nx : Int) (I : Option Addr) (ci : Nat) (F : Option Addr) (cf base : Nat) (w : World) (hI : OwnE 4 encItem 69 w base I ci is) (hF : OwnE 2 encHandle 29 w base F cf fs) (_hb : base ≤ w.heap.size) (hv : brB who is fs nx = true) (hT : KwTab w) (hJ : OwnE 4 encItem 69 w base J cj js) (hj : fdB js = true) :
    Calls Tryz.prog 102 #[.agg #[Value.string who.1,Value.string who.2,Value.slice I is.length ci,Value.slice F fs.length cf,Value.int .i64 nx],.slice J js.length cj] w (OutBl base (tellOf (who,is,fs,nx) js) w):=by
 have zw : (w.alloc (.cells #[Value.string who.1,Value.string who.2,Value.slice I is.length ci,Value.slice F fs.length cf,Value.int .i64 nx] 33)).heap.size = w.heap.size + 1:=by simp
 have hbA : Below w.heap.size w ((w.alloc (.cells #[Value.string who.1,Value.string who.2,Value.slice I is.length ci,Value.slice F fs.length cf,Value.int .i64 nx] 33)).alloc (.cells #[Value.string { data:=#[] },Value.string { data:=#[] },Value.slice none 0 0,Value.slice none 0 0,Value.int .i64 0] 33)):=((Below.refl _ _).alloc (Nat.le_refl _) _).alloc (by simp) _
 have zA : ((w.alloc (.cells #[Value.string who.1,Value.string who.2,Value.slice I is.length ci,Value.slice F fs.length cf,Value.int .i64 nx] 33)).alloc (.cells #[Value.string { data:=#[] },Value.string { data:=#[] },Value.slice none 0 0,Value.slice none 0 0,Value.int .i64 0] 33)).heap.size = w.heap.size + 2:=by simp
 have oB : Own ((w.alloc (.cells #[Value.string who.1,Value.string who.2,Value.slice I is.length ci,Value.slice F fs.length cf,Value.int .i64 nx] 33)).alloc (.cells #[Value.string { data:=#[] },Value.string { data:=#[] },Value.slice none 0 0,Value.slice none 0 0,Value.int .i64 0] 33)) w.heap.size 33 5 (some ⟨w.heap.size,0,none⟩) 1 1 (bxC who I is.length ci F fs.length cf nx):=Own.below (Own.lit w 33 5 1 #[Value.string who.1,Value.string who.2,Value.slice I is.length ci,Value.slice F fs.length cf,Value.int .i64 nx] (bxC who I is.length ci F fs.length cf nx) (by simp only [maxLen]; omega) rfl) ((Below.refl _ _).alloc (Nat.le_refl _) _)
 have oR : Own ((w.alloc (.cells #[Value.string who.1,Value.string who.2,Value.slice I is.length ci,Value.slice F fs.length cf,Value.int .i64 nx] 33)).alloc (.cells #[Value.string { data:=#[] },Value.string { data:=#[] },Value.slice none 0 0,Value.slice none 0 0,Value.int .i64 0] 33)) (w.heap.size + 1) 33 5 (some ⟨w.heap.size + 1,0,none⟩) 1 1 zBr':=by
  have:=Own.lit (w.alloc (.cells #[Value.string who.1,Value.string who.2,Value.slice I is.length ci,Value.slice F fs.length cf,Value.int .i64 nx] 33)) 33 5 1 #[Value.string { data:=#[] },Value.string { data:=#[] },Value.slice none 0 0,Value.slice none 0 0,Value.int .i64 0] zBr' (by simp only [maxLen]; omega) rfl
  rw [zw] at this
  exact this
 clear zw
 obtain ⟨hw,hi,hf,hn⟩:=brB_of hv
 obtain ⟨n0,n1⟩:=inB_of hn
 have hi8:=fd_len hi
 have hj8:=fd_len hj
 have hf10:=(Fv.of hf).1
 have HW:=Lib.hid hw
 have HI:=Lib.hid hi
 have HJ:=Lib.hid hj
 have HF:=Lib.hid hf
 have HN:=Lib.hid hn
 have HT:=Lib.hid hT
 clear hw hi hj hf hn hv hT
 have hIA:=Own.below hI hbA
 have hNI : ∀ b,blk I = some b → b ≠ w.heap.size + 1:=fun b _hb => by have:=(Own.lt hI _hb).2; omega
 have hFA:=Own.below hF hbA
 have hNF : ∀ b,blk F = some b → b ≠ w.heap.size + 1:=fun b _hb => by have:=(Own.lt hF _hb).2; omega
 have hJA:=Own.below hJ hbA
 have hNJ : ∀ b,blk J = some b → b ≠ w.heap.size + 1:=fun b _hb => by have:=(Own.lt hJ _hb).2; omega
 have a0:=(show _ = some (Value.string who.1) from oB.cell rfl (j:=0) (by omega))
 have a1:=(show _ = some (Value.string who.2) from oB.cell rfl (j:=1) (by omega))
 have a2:=(show _ = some (Value.slice I is.length ci) from oB.cell rfl (j:=2) (by omega))
 have a3:=(show _ = some (Value.slice F fs.length cf) from oB.cell rfl (j:=3) (by omega))
 have a4:=(show _ = some (Value.int .i64 nx) from oB.cell rfl (j:=4) (by omega))
 go_enter Tryz.func102,Tryz.ntmps102
 go_wp2_with fail
 generalize ((w.alloc (.cells #[Value.string who.1,Value.string who.2,Value.slice I is.length ci,Value.slice F fs.length cf,Value.int .i64 nx] 33)).alloc (.cells #[Value.string { data:=#[] },Value.string { data:=#[] },Value.slice none 0 0,Value.slice none 0 0,Value.int .i64 0] 33)) = wA at *
 refine (implTellChanges_any who nx I ci J cj wA.heap.size is js wA (OwnE.rd hIA) (OwnE.rd hJA) (Nat.le_refl _) (OwnE.capLe hIA) (OwnE.capLe hJA) HI.out HJ.out HW.out HN.out).mono ?_
 rintro e w1 ⟨R,cR,rfl,oT,b1⟩
 have k1:=hbA.trans (b1.mono hbA.size)
 have hI1:=Own.below hIA b1
 have hF1:=Own.below hFA b1
 have hJ1:=Own.below hJA b1
 have oB1:=Own.below oB b1
 have oR1:=Own.below oR b1
 have z1 : w.heap.size + 1 < w1.heap.size:=by have:=b1.size; omega
 have HTL : Hid ((tcOf who nx is js).length = (tcK is js).length):=Lib.hid (acts_len _ _ _)
 clear hIA hFA hJA oB oR b1 a0 a1 a2 a3 a4
 have a0:=(show _ = some (Value.string who.1) from oB1.cell rfl (j:=0) (by omega))
 have a1:=(show _ = some (Value.string who.2) from oB1.cell rfl (j:=1) (by omega))
 have a2:=(show _ = some (Value.slice I is.length ci) from oB1.cell rfl (j:=2) (by omega))
 have a3:=(show _ = some (Value.slice F fs.length cf) from oB1.cell rfl (j:=3) (by omega))
 have a4:=(show _ = some (Value.int .i64 nx) from oB1.cell rfl (j:=4) (by omega))
 have r0:=(show _ = some (Value.string { data:=#[] }) from oR1.cell rfl (j:=0) (by omega))
 have rf0:=oR1.frozen rfl 0
 have r1:=(show _ = some (Value.string { data:=#[] }) from oR1.cell rfl (j:=1) (by omega))
 have rf1:=oR1.frozen rfl 1
 have r2:=(show _ = some (Value.slice none 0 0) from oR1.cell rfl (j:=2) (by omega))
 have rf2:=oR1.frozen rfl 2
 have r3:=(show _ = some (Value.slice none 0 0) from oR1.cell rfl (j:=3) (by omega))
 have rf3:=oR1.frozen rfl 3
 have r4:=(show _ = some (Value.int .i64 0) from oR1.cell rfl (j:=4) (by omega))
 have rf4:=oR1.frozen rfl 4
 by_cases ht : (tcK is js).length = 0
 ·have HQ : Hid (tellOf (who,is,fs,nx) js = ((who,is,fs,nx),wSame)):=Lib.hid (if_pos ht)
  have e0 : ((((tcOf who nx is js).length : Nat) : Int) == 0) = true:=by rw [HTL.out,ht]; rfl
  clear ht
  go_wp2_with fail
  refine bodyPost_ret (v:=.tuple #[.agg #[Value.string who.1,Value.string who.2,Value.slice I is.length ci,Value.slice F fs.length cf,Value.int .i64 nx],.string { data:=#[115,97,109,101] }]) ?_ rfl ?_
  ·simp [results,Tryz.results102,go_sem,r0,r1,r2,r3,r4]
  ·rw [HQ.out]
   exact ⟨I,ci,F,cf,rfl,(own_setN (own_setN (own_setN (own_setN (own_setN hI1 (w.heap.size + 1) 0 (Value.string who.1) hNI) (w.heap.size + 1) 1 (Value.string who.2) hNI) (w.heap.size + 1) 2 (Value.slice I is.length ci) hNI) (w.heap.size + 1) 3 (Value.slice F fs.length cf) hNI) (w.heap.size + 1) 4 (Value.int .i64 nx) hNI),(own_setN (own_setN (own_setN (own_setN (own_setN hF1 (w.heap.size + 1) 0 (Value.string who.1) hNF) (w.heap.size + 1) 1 (Value.string who.2) hNF) (w.heap.size + 1) 2 (Value.slice I is.length ci) hNF) (w.heap.size + 1) 3 (Value.slice F fs.length cf) hNF) (w.heap.size + 1) 4 (Value.int .i64 nx) hNF),(((((k1.setCell (p:=⟨w.heap.size + 1,0,none⟩) (by show w.heap.size ≤ w.heap.size + 1; omega) (Value.string who.1)).setCell (p:=⟨w.heap.size + 1,1,none⟩) (by show w.heap.size ≤ w.heap.size + 1; omega) (Value.string who.2)).setCell (p:=⟨w.heap.size + 1,2,none⟩) (by show w.heap.size ≤ w.heap.size + 1; omega) (Value.slice I is.length ci)).setCell (p:=⟨w.heap.size + 1,3,none⟩) (by show w.heap.size ≤ w.heap.size + 1; omega) (Value.slice F fs.length cf)).setCell (p:=⟨w.heap.size + 1,4,none⟩) (by show w.heap.size ≤ w.heap.size + 1; omega) (Value.int .i64 nx))⟩
 ·have e0 : ((((tcOf who nx is js).length : Nat) : Int) == 0) = false:=by rw [HTL.out,beq_eq_false_iff_ne]; omega
  obtain ⟨c,key,hc6,hg0,hac⟩:=told_ac HW.out HI.out HJ.out HN.out (by omega : 0 < (tcK is js).length)
  have hTp : 0 < (tcOf who nx is js).length:=by rw [HTL.out]; omega
  have oC : Own (w1.alloc (.cells #[Value.string who.1,Value.string who.2,Value.slice J js.length cj,Value.slice F fs.length cf,Value.int .i64 (nx + 1)] 33)) w1.heap.size 33 5 (some ⟨w1.heap.size,0,none⟩) 1 1 (bxC who J js.length cj F fs.length cf (nx + 1)):=Own.lit w1 33 5 1 #[Value.string who.1,Value.string who.2,Value.slice J js.length cj,Value.slice F fs.length cf,Value.int .i64 (nx + 1)] (bxC who J js.length cj F fs.length cf (nx + 1)) (by simp only [maxLen]; omega) rfl
  have bC : Below w1.heap.size w1 (w1.alloc (.cells #[Value.string who.1,Value.string who.2,Value.slice J js.length cj,Value.slice F fs.length cf,Value.int .i64 (nx + 1)] 33)):=(Below.refl _ _).alloc (Nat.le_refl _) _
  have k2:=k1.trans (bC.mono k1.size)
  have hI2:=Own.below hI1 bC
  have hF2:=Own.below hF1 bC
  have hJ2:=Own.below hJ1 bC
  have oB2:=Own.below oB1 bC
  have oR2:=Own.below oR1 bC
  have oT2:=Own.below oT bC
  have d0:=(show _ = some (Value.string who.1) from oC.cell rfl (j:=0) (by omega))
  have d1:=(show _ = some (Value.string who.2) from oC.cell rfl (j:=1) (by omega))
  have d2:=(show _ = some (Value.slice J js.length cj) from oC.cell rfl (j:=2) (by omega))
  have d3:=(show _ = some (Value.slice F fs.length cf) from oC.cell rfl (j:=3) (by omega))
  have d4:=(show _ = some (Value.int .i64 (nx + 1)) from oC.cell rfl (j:=4) (by omega))
  have hw1 : who.1.size ≤ maxLen:=by have:=(hv_sizes HW.out).1.2; unfold maxLen; omega
  have hw2 : who.2.size ≤ maxLen:=by have:=(hv_sizes HW.out).2.2; unfold maxLen; omega
  go_wp2_with fail
  generalize (w1.alloc (.cells #[Value.string who.1,Value.string who.2,Value.slice J js.length cj,Value.slice F fs.length cf,Value.int .i64 (nx + 1)] 33)) = w2 at *
  refine (implBridgeValid_any who J cj js F cf fs (nx + 1) w2 w2.heap.size (OwnE.rd hJ2) (OwnE.rd hF2) (Nat.le_refl _) (by omega) (by omega) (OwnE.capLe hJ2) (fd_sz HJ.out) (fv_sz HF.out) hw1 hw2).mono ?_
  rintro e w3 ⟨rfl,b3⟩
  have k3:=k2.trans (b3.mono k2.size)
  have hI3:=Own.below hI2 b3
  have hF3:=Own.below hF2 b3
  have hJ3:=Own.below hJ2 b3
  have oB3:=Own.below oB2 b3
  have oR3:=Own.below oR2 b3
  have oC3:=Own.below oC b3
  have oT3:=Own.below oT2 b3
  clear a0 r0 rf0 d0 a1 r1 rf1 d1 a2 r2 rf2 d2 a3 r3 rf3 d3 a4 r4 rf4 d4
  have a0:=(show _ = some (Value.string who.1) from oB3.cell rfl (j:=0) (by omega))
  have a1:=(show _ = some (Value.string who.2) from oB3.cell rfl (j:=1) (by omega))
  have a2:=(show _ = some (Value.slice I is.length ci) from oB3.cell rfl (j:=2) (by omega))
  have a3:=(show _ = some (Value.slice F fs.length cf) from oB3.cell rfl (j:=3) (by omega))
  have a4:=(show _ = some (Value.int .i64 nx) from oB3.cell rfl (j:=4) (by omega))
  have r0:=(show _ = some (Value.string { data:=#[] }) from oR3.cell rfl (j:=0) (by omega))
  have rf0:=oR3.frozen rfl 0
  have r1:=(show _ = some (Value.string { data:=#[] }) from oR3.cell rfl (j:=1) (by omega))
  have rf1:=oR3.frozen rfl 1
  have r2:=(show _ = some (Value.slice none 0 0) from oR3.cell rfl (j:=2) (by omega))
  have rf2:=oR3.frozen rfl 2
  have r3:=(show _ = some (Value.slice none 0 0) from oR3.cell rfl (j:=3) (by omega))
  have rf3:=oR3.frozen rfl 3
  have r4:=(show _ = some (Value.int .i64 0) from oR3.cell rfl (j:=4) (by omega))
  have rf4:=oR3.frozen rfl 4
  have z3 : w1.heap.size < w3.heap.size:=(oC3.lt (b:=w1.heap.size) rfl).2
  have z31 : w.heap.size + 1 < w3.heap.size:=by omega
  cases hbv : brB who js fs (nx + 1)
  ·have HQ : Hid (tellOf (who,is,fs,nx) js = ((who,is,fs,nx),wNo)):=Lib.hid (by unfold tellOf; rw [if_neg ht,if_neg (by rw [hbv]; simp)])
   clear ht hbv
   go_wp2_with fail
   refine bodyPost_ret (v:=.tuple #[.agg #[Value.string who.1,Value.string who.2,Value.slice I is.length ci,Value.slice F fs.length cf,Value.int .i64 nx],.string { data:=#[110,111] }]) ?_ rfl ?_
   ·simp [results,Tryz.results102,go_sem,r0,r1,r2,r3,r4]
   ·rw [HQ.out]
    exact ⟨I,ci,F,cf,rfl,(own_setN (own_setN (own_setN (own_setN (own_setN hI3 (w.heap.size + 1) 0 (Value.string who.1) hNI) (w.heap.size + 1) 1 (Value.string who.2) hNI) (w.heap.size + 1) 2 (Value.slice I is.length ci) hNI) (w.heap.size + 1) 3 (Value.slice F fs.length cf) hNI) (w.heap.size + 1) 4 (Value.int .i64 nx) hNI),(own_setN (own_setN (own_setN (own_setN (own_setN hF3 (w.heap.size + 1) 0 (Value.string who.1) hNF) (w.heap.size + 1) 1 (Value.string who.2) hNF) (w.heap.size + 1) 2 (Value.slice I is.length ci) hNF) (w.heap.size + 1) 3 (Value.slice F fs.length cf) hNF) (w.heap.size + 1) 4 (Value.int .i64 nx) hNF),(((((k3.setCell (p:=⟨w.heap.size + 1,0,none⟩) (by show w.heap.size ≤ w.heap.size + 1; omega) (Value.string who.1)).setCell (p:=⟨w.heap.size + 1,1,none⟩) (by show w.heap.size ≤ w.heap.size + 1; omega) (Value.string who.2)).setCell (p:=⟨w.heap.size + 1,2,none⟩) (by show w.heap.size ≤ w.heap.size + 1; omega) (Value.slice I is.length ci)).setCell (p:=⟨w.heap.size + 1,3,none⟩) (by show w.heap.size ≤ w.heap.size + 1; omega) (Value.slice F fs.length cf)).setCell (p:=⟨w.heap.size + 1,4,none⟩) (by show w.heap.size ≤ w.heap.size + 1; omega) (Value.int .i64 nx))⟩
  ·have HQ : Hid (tellOf (who,is,fs,nx) js = ((who,js,fs,nx + 1),acOf c nx who key)):=Lib.hid (by
      unfold tellOf
      rw [if_neg ht,if_pos hbv,hg0]
      rfl)
   clear ht hbv
   obtain ⟨bT,hbT⟩ : ∃ b,R = some ⟨b,0,none⟩:=by
    rcases Own.shape oT3 with ⟨_,h0,_⟩ | ⟨b,h1,_⟩
    ·omega
    ·exact ⟨b,h1⟩
   have zT : bT < w3.heap.size:=(oT3.lt (b:=bT) (by rw [hbT]; rfl)).2
   have t0 : w3.cell? ⟨bT,0,none⟩ = some (Value.int .i64 (c : Int)):=by have:=Own.cell oT3 hbT (j:=0 * 5 + 0) (by omega); rw [cE_at encAct _ 0 (by omega),hg0,Nat.zero_mul,Nat.zero_add] at this; exact this
   have t1 : w3.cell? ⟨bT,1,none⟩ = some (Value.int .i64 nx):=by have:=Own.cell oT3 hbT (j:=0 * 5 + 1) (by omega); rw [cE_at encAct _ 0 (by omega),hg0,Nat.zero_mul,Nat.zero_add] at this; exact this
   have t2 : w3.cell? ⟨bT,2,none⟩ = some (Value.string who.1):=by have:=Own.cell oT3 hbT (j:=0 * 5 + 2) (by omega); rw [cE_at encAct _ 0 (by omega),hg0,Nat.zero_mul,Nat.zero_add] at this; exact this
   have t3 : w3.cell? ⟨bT,3,none⟩ = some (Value.string who.2):=by have:=Own.cell oT3 hbT (j:=0 * 5 + 3) (by omega); rw [cE_at encAct _ 0 (by omega),hg0,Nat.zero_mul,Nat.zero_add] at this; exact this
   have t4 : w3.cell? ⟨bT,4,none⟩ = some (Value.string key):=by have:=Own.cell oT3 hbT (j:=0 * 5 + 4) (by omega); rw [cE_at encAct _ 0 (by omega),hg0,Nat.zero_mul,Nat.zero_add] at this; exact this
   have d0:=(show _ = some (Value.string who.1) from oC3.cell rfl (j:=0) (by omega))
   have d1:=(show _ = some (Value.string who.2) from oC3.cell rfl (j:=1) (by omega))
   have d2:=(show _ = some (Value.slice J js.length cj) from oC3.cell rfl (j:=2) (by omega))
   have d3:=(show _ = some (Value.slice F fs.length cf) from oC3.cell rfl (j:=3) (by omega))
   have d4:=(show _ = some (Value.int .i64 (nx + 1)) from oC3.cell rfl (j:=4) (by omega))
   subst hbT
   have HAC:=Lib.hid (fun (z : World) hz => implActivityText_any c nx who key z hc6 hac hz)
   have HT3:=Lib.hid (HT.out.below k3 (Nat.le_refl _))
   clear hac hg0
   go_wp2_with fail
   refine wp_region_makes 5 [(isS (.agg #[Value.string who.1,Value.string who.2,Value.slice J js.length cj,Value.slice F fs.length cf,Value.int .i64 (nx + 1)])),(isS (.slice (some ⟨bT,0,none⟩) (tcOf who nx is js).length cR)),(isS (.pointer (some ⟨bT,0,none⟩))),(isS (.agg #[Value.int .i64 (c : Int),Value.int .i64 nx,Value.string who.1,Value.string who.2,Value.string key])),(isS (.string (acOf c nx who key)))] [0,0,0,0,0] (by kernel_rfl) (by kernel_rfl) (by rfl) (by rfl) (by rfl) ?_ ?_ ?_
   ·repeat (first | exact stbB_nil | refine stbB_cons (isS_stb _) ?_)
   ·simp only [List.take_succ_cons,List.take_zero]
    refine looseSteps_cons (fun k a' w' hk0' hk1' hR hG hkp hd => ?_) ?_
    ·have hR0 : Below w3.drew.heap.size w3.drew w':=hR
     have hRb : Below w3.heap.size w3 w':=⟨hR0.os,hR0.tape,hR0.output,hR0.size,hR0.block⟩
     have k7' : a'.tmps.getD 7 undef = .pointer (some ⟨w1.heap.size,0,none⟩):=hkp 7 (by rfl)
     have rr0:=(hRb.cell (p:=⟨w1.heap.size,0,none⟩) (by exact z3)).trans d0
     have rr1:=(hRb.cell (p:=⟨w1.heap.size,1,none⟩) (by exact z3)).trans d1
     have rr2:=(hRb.cell (p:=⟨w1.heap.size,2,none⟩) (by exact z3)).trans d2
     have rr3:=(hRb.cell (p:=⟨w1.heap.size,3,none⟩) (by exact z3)).trans d3
     have rr4:=(hRb.cell (p:=⟨w1.heap.size,4,none⟩) (by exact z3)).trans d4
     unfold looseRun
     go_simp
     exact ⟨Below.refl _ _,trivial,rfl⟩
    refine looseSteps_cons (fun k a' w' hk0' hk1' hR hG hkp hd => ?_) ?_
    ·have hR0 : Below w3.drew.heap.size w3.drew w':=hR
     have hRb : Below w3.heap.size w3 w':=⟨hR0.os,hR0.tape,hR0.output,hR0.size,hR0.block⟩
     have k6' : a'.tmps.getD 6 undef = .slice (some ⟨bT,0,none⟩) (tcOf who nx is js).length cR:=hkp 6 (by rfl)
     unfold looseRun
     go_simp
     exact ⟨Below.refl _ _,trivial,rfl⟩
    refine looseSteps_cons (fun k a' w' hk0' hk1' hR hG hkp hd => ?_) ?_
    ·have hR0 : Below w3.drew.heap.size w3.drew w':=hR
     have hRb : Below w3.heap.size w3 w':=⟨hR0.os,hR0.tape,hR0.output,hR0.size,hR0.block⟩
     have e1:=hd.1 rfl
     have e1' : a'.tmps.getD 34 undef = _:=e1
     have e1q:=e1'
     rw [Array.getD_eq_getD_getElem?] at e1q
     have hTi : (0 : Int) < ((tcOf who nx is js).length : Int):=by omega
     unfold looseRun
     go_simp
     try rw [if_pos hTp]
     exact ⟨Below.refl _ _,trivial,rfl⟩
    refine looseSteps_cons (fun k a' w' hk0' hk1' hR hG hkp hd => ?_) ?_
    ·have hR0 : Below w3.drew.heap.size w3.drew w':=hR
     have hRb : Below w3.heap.size w3 w':=⟨hR0.os,hR0.tape,hR0.output,hR0.size,hR0.block⟩
     have e1:=hd.1 rfl
     have e1' : a'.tmps.getD 35 undef = _:=e1
     have e1q:=e1'
     rw [Array.getD_eq_getD_getElem?] at e1q
     have rr0:=(hRb.cell (p:=⟨bT,0,none⟩) (by exact zT)).trans t0
     have rr1:=(hRb.cell (p:=⟨bT,1,none⟩) (by exact zT)).trans t1
     have rr2:=(hRb.cell (p:=⟨bT,2,none⟩) (by exact zT)).trans t2
     have rr3:=(hRb.cell (p:=⟨bT,3,none⟩) (by exact zT)).trans t3
     have rr4:=(hRb.cell (p:=⟨bT,4,none⟩) (by exact zT)).trans t4
     unfold looseRun
     go_simp
     exact ⟨Below.refl _ _,trivial,rfl⟩
    refine looseSteps_cons (fun k a' w' hk0' hk1' hR hG hkp hd => ?_) ?_
    ·have hR0 : Below w3.drew.heap.size w3.drew w':=hR
     have hRb : Below w3.heap.size w3 w':=⟨hR0.os,hR0.tape,hR0.output,hR0.size,hR0.block⟩
     have e1:=hd.1 rfl
     have e1' : a'.tmps.getD 36 undef = _:=e1
     have e1q:=e1'
     rw [Array.getD_eq_getD_getElem?] at e1q
     unfold looseRun
     go_simp
     refine ⟨rfl,(HAC.out _ (HT3.out.below hRb (Nat.le_refl _))).mono ?_⟩
     rintro e w2 ⟨rfl,_hb⟩
     exact ⟨_,rfl,_hb,trivial,rfl⟩
    exact looseSteps_nil
   ·intro w4 b4
    simp only [List.take_succ_cons,List.take_zero,List.drop_succ_cons,List.drop_zero]
    refine looseAll_cons fun v33 h33 => ?_
    refine looseAll_cons fun v34 h34 => ?_
    refine looseAll_cons fun v35 h35 => ?_
    refine looseAll_cons fun v36 h36 => ?_
    refine looseAll_cons fun v37 h37 => ?_
    refine looseAll_nil ?_
    have e1 : v33 = .agg #[Value.string who.1,Value.string who.2,Value.slice J js.length cj,Value.slice F fs.length cf,Value.int .i64 (nx + 1)]:=h33
    have e2 : v37 = .string (acOf c nx who key):=h37
    subst e1 e2
    clear h33 h34 h35 h36 h37
    have k4:=k3.trans (b4.mono k3.size)
    have hI4:=Own.below hI3 b4
    have hF4:=Own.below hF3 b4
    have hJ4:=Own.below hJ3 b4
    have oR4:=Own.below oR3 b4
    clear a0 r0 rf0 d0 t0 a1 r1 rf1 d1 t1 a2 r2 rf2 d2 t2 a3 r3 rf3 d3 t3 a4 r4 rf4 d4 t4
    have r0:=(show _ = some (Value.string { data:=#[] }) from oR4.cell rfl (j:=0) (by omega))
    have rf0:=oR4.frozen rfl 0
    have r1:=(show _ = some (Value.string { data:=#[] }) from oR4.cell rfl (j:=1) (by omega))
    have rf1:=oR4.frozen rfl 1
    have r2:=(show _ = some (Value.slice none 0 0) from oR4.cell rfl (j:=2) (by omega))
    have rf2:=oR4.frozen rfl 2
    have r3:=(show _ = some (Value.slice none 0 0) from oR4.cell rfl (j:=3) (by omega))
    have rf3:=oR4.frozen rfl 3
    have r4:=(show _ = some (Value.int .i64 0) from oR4.cell rfl (j:=4) (by omega))
    have rf4:=oR4.frozen rfl 4
    simp only [Act.put,List.setIfInBounds_toArray,List.set_cons_zero,List.set_cons_succ]
    go_wp2_with fail
    refine bodyPost_ret (v:=.tuple #[.agg #[Value.string who.1,Value.string who.2,Value.slice J js.length cj,Value.slice F fs.length cf,Value.int .i64 (nx + 1)],.string (acOf c nx who key)]) ?_ rfl ?_
    ·simp [results,Tryz.results102,go_sem,r0,r1,r2,r3,r4]
    ·rw [HQ.out]
     exact ⟨J,cj,F,cf,rfl,(own_setN (own_setN (own_setN (own_setN (own_setN hJ4 (w.heap.size + 1) 0 (Value.string who.1) hNJ) (w.heap.size + 1) 1 (Value.string who.2) hNJ) (w.heap.size + 1) 2 (Value.slice J js.length cj) hNJ) (w.heap.size + 1) 3 (Value.slice F fs.length cf) hNJ) (w.heap.size + 1) 4 (Value.int .i64 (nx + 1)) hNJ),(own_setN (own_setN (own_setN (own_setN (own_setN hF4 (w.heap.size + 1) 0 (Value.string who.1) hNF) (w.heap.size + 1) 1 (Value.string who.2) hNF) (w.heap.size + 1) 2 (Value.slice J js.length cj) hNF) (w.heap.size + 1) 3 (Value.slice F fs.length cf) hNF) (w.heap.size + 1) 4 (Value.int .i64 (nx + 1)) hNF),(((((k4.setCell (p:=⟨w.heap.size + 1,0,none⟩) (by show w.heap.size ≤ w.heap.size + 1; omega) (Value.string who.1)).setCell (p:=⟨w.heap.size + 1,1,none⟩) (by show w.heap.size ≤ w.heap.size + 1; omega) (Value.string who.2)).setCell (p:=⟨w.heap.size + 1,2,none⟩) (by show w.heap.size ≤ w.heap.size + 1; omega) (Value.slice J js.length cj)).setCell (p:=⟨w.heap.size + 1,3,none⟩) (by show w.heap.size ≤ w.heap.size + 1; omega) (Value.slice F fs.length cf)).setCell (p:=⟨w.heap.size + 1,4,none⟩) (by show w.heap.size ≤ w.heap.size + 1; omega) (Value.int .i64 (nx + 1)))⟩
end Go.Proofs.YtfnmlffpnmmcdaaGreatDoor
namespace Go.Proofs.YtfnmlffpnmmcdaaGreatDoor
set_option maxRecDepth 100000
open Go.RowKit
def mixTo {α : Type} (f : α → α) (xs : List α) (k : Nat) : List α:=(xs.take k).map f ++ xs.drop k
section
variable {α : Type} {f : α → α} {xs : List α} {k : Nat}
theorem mixTo_zero : mixTo f xs 0 = xs:=rfl
theorem mixTo_all : mixTo f xs xs.length = xs.map f:=by unfold mixTo; simp
theorem mixTo_len (hk : k ≤ xs.length) : (mixTo f xs k).length = xs.length:=by unfold mixTo; simp; omega
variable [Inhabited α]
theorem mixTo_gt (hk : k ≤ xs.length) {j : Nat} (hj : j < xs.length) : gt (mixTo f xs k) j = if j < k then f (gt xs j) else gt xs j:=by
 unfold mixTo
 rw [gt_append,List.length_map,List.length_take,Nat.min_eq_left hk]
 by_cases h : j < k
 ·rw [if_pos h,if_pos h]
  unfold gt
  simp [h,hj]
 ·rw [if_neg h,if_neg h,gt_drop]
  congr 1
  omega
theorem mixTo_set (hk : k < xs.length) : (mixTo f xs k).set k (f (gt xs k)) = mixTo f xs (k + 1):=by
 have hl:=mixTo_len (f:=f) (Nat.le_of_lt hk)
 refine gt_ext (by rw [List.length_set,hl,mixTo_len hk]) fun j hj => ?_
 rw [List.length_set,hl] at hj
 rw [gt_set (by omega),mixTo_gt hk hj,mixTo_gt (Nat.le_of_lt hk) hj]
 by_cases h : j = k
 ·subst h; rw [if_pos rfl,if_pos (Nat.lt_succ_self _)]
 ·rw [if_neg h]
  by_cases h2 : j < k
  ·rw [if_pos h2,if_pos (by omega)]
  ·rw [if_neg h2,if_neg (by omega)]
theorem mixTo_same (hk : k < xs.length) (hf : f (gt xs k) = gt xs k) : mixTo f xs (k + 1) = mixTo f xs k:=by
 have hl:=mixTo_len (f:=f) (Nat.le_of_lt hk)
 refine gt_ext (by rw [hl,mixTo_len hk]) fun j hj => ?_
 rw [mixTo_len hk] at hj
 rw [mixTo_gt hk hj,mixTo_gt (Nat.le_of_lt hk) hj]
 by_cases h : j = k
 ·subst h; rw [if_pos (Nat.lt_succ_self _),if_neg (Nat.lt_irrefl _),hf]
 ·by_cases h2 : j < k
  ·rw [if_pos h2,if_pos (by omega)]
  ·rw [if_neg h2,if_neg (by omega)]
end
theorem item_cells (y : ElItem) (k i : Nat) (g : Value) : (if i = k * 4 + 3 then Value.int .i64 y.2.2.2 else if i = k * 4 + 2 then Value.string y.2.2.1 else if i = k * 4 + 1 then Value.string y.2.1 else if i = k * 4 then Value.string y.1 else g) = if i / 4 = k then encItem y (i % 4) else g:=by
 by_cases hd : i / 4 = k
 ·rw [if_pos hd]
  rcases (by omega : i % 4 = 0 ∨ i % 4 = 1 ∨ i % 4 = 2 ∨ i % 4 = 3) with h | h | h | h
  ·rw [h,if_neg (by omega),if_neg (by omega),if_neg (by omega),if_pos (by omega)]; rfl
  ·rw [h,if_neg (by omega),if_neg (by omega),if_pos (by omega)]; rfl
  ·rw [h,if_neg (by omega),if_pos (by omega)]; rfl
  ·rw [h,if_pos (by omega)]; rfl
 ·rw [if_neg hd,if_neg (by omega),if_neg (by omega),if_neg (by omega),if_neg (by omega)]
set_option maxHeartbeats 1600000 in
theorem implMergeFeeds_any (A : Option Addr) (cap : Nat) (T : Option Addr) (capT B : Nat) (bs ns : List ElItem) (w : World) (h : RdE 4 encItem w B A bs) (ht : RdE 4 encItem w B T ns) (hB : B ≤ w.heap.size) (hcap : bs.length ≤ cap) (hcapT : ns.length ≤ capT) (hvb : fdB bs = true) (hva : fdB ns = true) :
    Calls Tryz.prog 101 #[.slice A bs.length cap,.slice T ns.length capT] w fun e w' => ∃ R cR,e = .returned (.slice R (mfOf bs ns).length cR) ∧ OwnE 4 encItem 69 w' w.heap.size R cR (mfOf bs ns) ∧ Below w.heap.size w w':=by
 have hb8:=fd_len hvb
 have hn8:=fd_len hva
 have HVB:=Lib.hid hvb
 have HVA:=Lib.hid hva
 clear hvb hva
 go_enter Tryz.func101,Tryz.ntmps101
 go_wp2_with fail
 refine (implFeedValid_any A cap B bs w h hB (by omega) hcap (fd_sz HVB.out)).mono ?_
 rintro e w1 ⟨rfl,hb1⟩
 rw [HVB.out]
 have hs1:=hb1.size
 go_wp2_with fail
 refine (implFeedValid_any T capT B ns w1 (ht.below (hb1.mono hB)) (Nat.le_trans hB hs1) (by omega) hcapT (fd_sz HVA.out)).mono ?_
 rintro e w2 ⟨rfl,hb2⟩
 rw [HVA.out]
 have hb2w:=hb1.trans (hb2.mono hs1)
 have hs2:=hb2w.size
 clear hb1 hb2 hs1
 go_wp2_with fail
 refine (copyOfItem_any A cap B bs w2 (h.below (hb2w.mono hB)) (by omega)).mono ?_
 rintro e w3 ⟨T0,c0,rfl,o3,b3⟩
 have hb3w:=hb2w.trans (b3.mono hs2)
 have o3w:=Own.more o3 hs2
 clear o3 b3 hb2w
 go_wp2_with fail
 go_loopw [6,8,21] (fun _ _ i wr => ∃ (k : Nat) (cur : List ElItem),k ≤ bs.length ∧ i = .int .i64 k ∧ cur.length = bs.length ∧ Hid (cur = mixTo (mfI ns) bs k) ∧ OwnE 4 encItem 69 wr w.heap.size T0 c0 cur ∧ Below w.heap.size w wr) (fun _ _ i _ => bs.length - (intOf i).toNat)
 case atStart => exact ⟨0,bs,Nat.zero_le _,rfl,rfl,Lib.hid mixTo_zero.symm,o3w,hb3w⟩
 case round =>
  clear o3w hb3w
  obtain ⟨k,cur,hk,rfl,hlen,hcur,hown,hbl⟩:=hrel
  have hsz:=hbl.size
  by_cases hklt : k < bs.length
  ·have hgk : gt cur k = gt bs k:=by rw [hcur.out,mixTo_gt hk hklt,if_neg (Nat.lt_irrefl _)]
   obtain ⟨b0,rfl,hb0,hb0l⟩ : ∃ b0,T0 = some ⟨b0,0,none⟩ ∧ w.heap.size ≤ b0 ∧ b0 < wr.heap.size:=by
    rcases Own.shape hown with ⟨_,h0,_⟩ | ⟨b0,h1,h2,h3,_⟩
    ·omega
    ·exact ⟨b0,h1,h2,h3⟩
   have c0 : wr.cell? ⟨b0,k * 4,none⟩ = some (Value.string (gt bs k).1):=by have:=Own.cell hown rfl (j:=k * 4 + 0) (by omega); rw [cE_at encItem cur k (by omega),hgk] at this; exact this
   have c1 : wr.cell? ⟨b0,k * 4 + 1,none⟩ = some (Value.string (gt bs k).2.1):=by have:=Own.cell hown rfl (j:=k * 4 + 1) (by omega); rw [cE_at encItem cur k (by omega),hgk] at this; exact this
   have c2 : wr.cell? ⟨b0,k * 4 + 2,none⟩ = some (Value.string (gt bs k).2.2.1):=by have:=Own.cell hown rfl (j:=k * 4 + 2) (by omega); rw [cE_at encItem cur k (by omega),hgk] at this; exact this
   have c3 : wr.cell? ⟨b0,k * 4 + 3,none⟩ = some (Value.int .i64 (gt bs k).2.2.2):=by have:=Own.cell hown rfl (j:=k * 4 + 3) (by omega); rw [cE_at encItem cur k (by omega),hgk] at this; exact this
   have htA:=ht.below ((hbl.alloc hsz (.cells #[Value.string (gt bs k).1,Value.string (gt bs k).2.1,Value.string (gt bs k).2.2.1,Value.int .i64 (gt bs k).2.2.2] 69)).mono hB)
   have hownA:=Own.below hown ((Below.refl _ _).alloc (Nat.le_refl _) (.cells #[Value.string (gt bs k).1,Value.string (gt bs k).2.1,Value.string (gt bs k).2.2.1,Value.int .i64 (gt bs k).2.2.2] 69))
   have hblA:=hbl.alloc hsz (.cells #[Value.string (gt bs k).1,Value.string (gt bs k).2.1,Value.string (gt bs k).2.2.1,Value.int .i64 (gt bs k).2.2.2] 69)
   have e0 : (wr.alloc (.cells #[Value.string (gt bs k).1,Value.string (gt bs k).2.1,Value.string (gt bs k).2.2.1,Value.int .i64 (gt bs k).2.2.2] 69)).cell? ⟨wr.heap.size,0,none⟩ = some (Value.string (gt bs k).1):=by rw [World.cell?_alloc_at _ _ _ _ rfl]; rfl
   have e1 : (wr.alloc (.cells #[Value.string (gt bs k).1,Value.string (gt bs k).2.1,Value.string (gt bs k).2.2.1,Value.int .i64 (gt bs k).2.2.2] 69)).cell? ⟨wr.heap.size,1,none⟩ = some (Value.string (gt bs k).2.1):=by rw [World.cell?_alloc_at _ _ _ _ rfl]; rfl
   have e2 : (wr.alloc (.cells #[Value.string (gt bs k).1,Value.string (gt bs k).2.1,Value.string (gt bs k).2.2.1,Value.int .i64 (gt bs k).2.2.2] 69)).cell? ⟨wr.heap.size,2,none⟩ = some (Value.string (gt bs k).2.2.1):=by rw [World.cell?_alloc_at _ _ _ _ rfl]; rfl
   have e3 : (wr.alloc (.cells #[Value.string (gt bs k).1,Value.string (gt bs k).2.1,Value.string (gt bs k).2.2.1,Value.int .i64 (gt bs k).2.2.2] 69)).cell? ⟨wr.heap.size,3,none⟩ = some (Value.int .i64 (gt bs k).2.2.2):=by rw [World.cell?_alloc_at _ _ _ _ rfl]; rfl
   have hszA : wr.heap.size < (wr.alloc (.cells #[Value.string (gt bs k).1,Value.string (gt bs k).2.1,Value.string (gt bs k).2.2.1,Value.int .i64 (gt bs k).2.2.2] 69)).heap.size:=by simp
   clear hown hbl
   have HIX:=Lib.hid (fun z hz => itemNumber_any T capT B ns (gt bs k).1 (wr.alloc (.cells #[Value.string (gt bs k).1,Value.string (gt bs k).2.1,Value.string (gt bs k).2.2.1,Value.int .i64 (gt bs k).2.2.2] 69)) htA z hz)
   go_wp2_with fail
   generalize (wr.alloc (.cells #[Value.string (gt bs k).1,Value.string (gt bs k).2.1,Value.string (gt bs k).2.2.1,Value.int .i64 (gt bs k).2.2.2] 69)) = wA at *
   refine (HIX.out (by omega) (by omega)).mono ?_
   rintro e w4 ⟨rfl,hb4⟩
   clear HIX
   have hbl4:=hblA.trans (hb4.mono (by omega))
   have hs4:=hbl4.size
   have hown4:=Own.below hownA hb4
   have ht4:=ht.below (hbl4.mono hB)
   clear c0 c1 c2 c3 e0 e1 e2 e3 hownA hblA htA
   cases hq : hasK ns (gt bs k).1
   ·have hx:=ix_neg hq
    rw [hx]
    have hf : mfI ns (gt bs k) = gt bs k:=if_neg (by rw [hq]; simp)
    have HN:=Lib.hid (mixTo_same (f:=mfI ns) hklt hf)
    clear hx hq hf
    go_wp2_with fail
    go_roundw
    case rel => exact ⟨k + 1,cur,by omega,by go_num,hlen,Lib.hid (by rw [HN.out]; exact hcur.out),hown4,hbl4⟩
    case measure => simp [intOf]; omega
   ·obtain ⟨j,hj,hx,hw,_⟩:=ix_pos hq
    rw [hx]
    have gj : decide ((0 : Int) ≤ (j : Int)) = true:=decide_eq_true (by omega)
    have hf : mfI ns (gt bs k) = gt ns j:=by unfold mfI; rw [if_pos hq,hw]
    clear hx hq hw
    obtain ⟨b2,off2,rfl,hb2,hc2⟩:=ht4.at_ (by omega)
    have y0 : w4.cell? ⟨b2,off2 + j * 4,none⟩ = some (Value.string (gt ns j).1):=hc2 j 0 (by omega) (by omega)
    have y1 : w4.cell? ⟨b2,off2 + j * 4 + 1,none⟩ = some (Value.string (gt ns j).2.1):=hc2 j 1 (by omega) (by omega)
    have y2 : w4.cell? ⟨b2,off2 + j * 4 + 2,none⟩ = some (Value.string (gt ns j).2.2.1):=hc2 j 2 (by omega) (by omega)
    have y3 : w4.cell? ⟨b2,off2 + j * 4 + 3,none⟩ = some (Value.int .i64 (gt ns j).2.2.2):=hc2 j 3 (by omega) (by omega)
    have z0:=Own.cell hown4 rfl (j:=k * 4 + 0) (by omega)
    rw [cE_at encItem cur k (by omega),hgk] at z0
    have z0 : w4.cell? ⟨b0,k * 4,none⟩ = some (Value.string (gt bs k).1):=z0
    have f0 : w4.frozen? ⟨b0,k * 4,none⟩ = false:=Own.frozen hown4 rfl (k * 4 + 0)
    have z1:=Own.cell hown4 rfl (j:=k * 4 + 1) (by omega)
    rw [cE_at encItem cur k (by omega),hgk] at z1
    have z1 : w4.cell? ⟨b0,k * 4 + 1,none⟩ = some (Value.string (gt bs k).2.1):=z1
    have f1 : w4.frozen? ⟨b0,k * 4 + 1,none⟩ = false:=Own.frozen hown4 rfl (k * 4 + 1)
    have z2:=Own.cell hown4 rfl (j:=k * 4 + 2) (by omega)
    rw [cE_at encItem cur k (by omega),hgk] at z2
    have z2 : w4.cell? ⟨b0,k * 4 + 2,none⟩ = some (Value.string (gt bs k).2.2.1):=z2
    have f2 : w4.frozen? ⟨b0,k * 4 + 2,none⟩ = false:=Own.frozen hown4 rfl (k * 4 + 2)
    have z3:=Own.cell hown4 rfl (j:=k * 4 + 3) (by omega)
    rw [cE_at encItem cur k (by omega),hgk] at z3
    have z3 : w4.cell? ⟨b0,k * 4 + 3,none⟩ = some (Value.int .i64 (gt bs k).2.2.2):=z3
    have f3 : w4.frozen? ⟨b0,k * 4 + 3,none⟩ = false:=Own.frozen hown4 rfl (k * 4 + 3)
    have s0:=Own.set hown4 rfl (j:=k * 4) (Value.string (gt ns j).1)
    have s1:=Own.set s0.1 rfl (j:=k * 4 + 1) (Value.string (gt ns j).2.1)
    have s2:=Own.set s1.1 rfl (j:=k * 4 + 2) (Value.string (gt ns j).2.2.1)
    have s3:=Own.set s2.1 rfl (j:=k * 4 + 3) (Value.int .i64 (gt ns j).2.2.2)
    have hownX : OwnE 4 encItem 69 ((((w4.setCell ⟨b0,k * 4,none⟩ (Value.string (gt ns j).1)).setCell ⟨b0,k * 4 + 1,none⟩ (Value.string (gt ns j).2.1)).setCell ⟨b0,k * 4 + 2,none⟩ (Value.string (gt ns j).2.2.1)).setCell ⟨b0,k * 4 + 3,none⟩ (Value.int .i64 (gt ns j).2.2.2)) w.heap.size (some ⟨b0,0,none⟩) c0 (cur.set k (gt ns j)):=OwnE.of_set (by omega) s3.1 (fun i _ => item_cells (gt ns j) k i _)
    have hg : w4.grownBy ((((w4.setCell ⟨b0,k * 4,none⟩ (Value.string (gt ns j).1)).setCell ⟨b0,k * 4 + 1,none⟩ (Value.string (gt ns j).2.1)).setCell ⟨b0,k * 4 + 2,none⟩ (Value.string (gt ns j).2.2.1)).setCell ⟨b0,k * 4 + 3,none⟩ (Value.int .i64 (gt ns j).2.2.2)) (some b0):=((s0.2.trans s1.2).trans s2.2).trans s3.2
    have hblX:=hbl4.trans (grown_below (A:=some ⟨b0,0,none⟩) hg (fun b hb => by simp [blk] at hb; omega) hs4)
    have HN:=Lib.hid (mixTo_set (f:=mfI ns) hklt)
    rw [hf] at HN
    clear s0 s1 s2 s3 hg hf hc2
    go_wp2_with fail
    go_roundw
    case rel => exact ⟨k + 1,cur.set k (gt ns j),by omega,by go_num,by rw [List.length_set]; exact hlen,Lib.hid (by rw [← HN.out,← hcur.out]),hownX,hblX⟩
    case measure => simp [intOf]; omega
  ·obtain rfl : k = bs.length:=by omega
   have hM : cur = bs.map (mfI ns):=by rw [hcur.out,mixTo_all]
   clear hcur
   go_wp2_with fail
   refine (implNewItems_any A cap T capT B bs ns wr (h.below (hbl.mono hB)) (ht.below (hbl.mono hB)) (Nat.le_trans hB hsz) hcap hcapT HVB.out HVA.out).mono ?_
   rintro e w4 ⟨R,cR,rfl,o4,b4⟩
   have hown4:=Own.below hown b4
   have hbl4:=hbl.trans (b4.mono hsz)
   have hs4:=hbl4.size
   have hr4:=OwnE.rd o4
   have hnl:=nwOf_len bs ns
   have HL : Hid (mfL bs ns = cur ++ nwOf bs ns):=Lib.hid (by rw [hM]; rfl)
   generalize nwOf bs ns = ws at *
   clear hM o4 b4 hown hbl
   by_cases h9 : cur.length + ws.length ≤ 8
   ·have gl : decide ((8 : Int) < (bs.length : Int) + (ws.length : Int)) = false:=decide_eq_false (by omega)
    have HE : Hid (mfOf bs ns = cur ++ ws):=Lib.hid (by unfold mfOf; rw [HL.out,if_pos (by rw [List.length_append]; exact h9)])
    clear h9
    go_wp2_with (at_builtin; refine wpList_app rfl (.tmp 40) (.tmp 43) _ rfl w.heap.size 69 _ 4 56 Tryz.underlying30 info_Item rfl (by omega) T0 R bs.length c0 ws.length cR w4.heap.size (cE 4 encItem cur) (cE 4 encItem ws) rfl rfl (OwnE.own hown4 hlen) hr4 (fun _ _ => encItem_one _ _) (by simp only [maxLen]; omega) (by omega) hs4 ?_; intro T1 cap1 w5 hown5 hg5)
    go_ret
    have ho5:=OwnE.join (by omega) hlen rfl hown5
    rw [HE.out]
    refine ⟨T1,cap1,?_,ho5,hbl4.trans (grown_below hg5 (fun b hb => (Own.lt hown4 hb).1) hs4)⟩
    rw [List.length_append,hlen]
    rfl
   ·have gl : decide ((8 : Int) < (bs.length : Int) + (ws.length : Int)) = true:=decide_eq_true (by omega)
    have HE : Hid (mfOf bs ns = []):=Lib.hid (by unfold mfOf; rw [HL.out,if_neg (by rw [List.length_append]; exact h9)])
    clear h9
    go_wp2_with (at_builtin; refine wpList_app rfl (.tmp 40) (.tmp 43) _ rfl w.heap.size 69 _ 4 56 Tryz.underlying30 info_Item rfl (by omega) T0 R bs.length c0 ws.length cR w4.heap.size (cE 4 encItem cur) (cE 4 encItem ws) rfl rfl (OwnE.own hown4 hlen) hr4 (fun _ _ => encItem_one _ _) (by simp only [maxLen]; omega) (by omega) hs4 ?_; intro T1 cap1 w5 hown5 hg5)
    go_ret
    rw [HE.out]
    exact ⟨none,0,rfl,Own.nil _ _ _ _ _,hbl4.trans (grown_below hg5 (fun b hb => (Own.lt hown4 hb).1) hs4)⟩
end Go.Proofs.YtfnmlffpnmmcdaaGreatDoor
