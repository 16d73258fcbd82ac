/- A region that draws its order, each of whose operations leaves some value of its kind and a world of a kind: whatever the order, in the end each slot holds some value of its kind. The last operation waits for all others. -/
import Derived.Test.YtfnmlffpnmmcdaaOwn
namespace Go.Proofs.Ytfnmlffpnmmcdaa
open Go.RowKit
/-- What is known of a slot's value, in a world. -/
abbrev Spec := Value → World → Prop
/-- What a slot holds. -/
def slotv (a : Act) : Option Tmp → Value
  | some d => a.tmps.getD d undef
  | none => undef
/-- What one operation leaves. -/
def looseUpon (P : Program) (R : World → World → Prop) (G : Nat → World → Prop) (k : Nat) (s : Spec) (w : World) : Result Next → Prop
  | .ok (.value v) w' => R w w' ∧ G k w' ∧ s v w'
  | .ok .skip w' => R w w' ∧ G k w' ∧ s undef w'
  | .ok (.enter f args) w' => w' = w ∧ Calls P f args w (fun e w'' => ∃ v, e = .returned v ∧ R w w'' ∧ G k w'' ∧ s v w'')
  | _ => False
def looseRun (P : Program) (R : World → World → Prop) (G : Nat → World → Prop) (k : Nat) (s : Spec) (o : Oper) (a : Act) (w : World) : Prop := looseUpon P R G k s w ((execOp a.eval o).run P w)
theorem wp_of_loose {P : Program} {R : World → World → Prop} {G : Nat → World → Prop} {k : Nat} {s : Spec} {o : Oper} {a : Act} {w : World} {K : Act → World → Prop} {Q : Exit → Act → World → Prop}
    (h : looseRun P R G k s o a w) (hk : ∀ v w', R w w' → G k w' → s v w' → K (a.put o.dst v) w') : o.wp P a w K Q := by
  unfold looseRun at h
  unfold Oper.wp
  generalize (execOp a.eval o).run P w = r at *
  cases r with
  | ok n w' =>
    cases n <;> simp only [looseUpon] at h <;> simp only [Oper.upon]
    case value u => exact hk _ _ h.1 h.2.1 h.2.2
    case skip => exact hk _ _ h.1 h.2.1 h.2.2
    case enter f args =>
      obtain ⟨rfl, hc⟩ := h
      exact hc.mono fun e w'' ⟨v, he, h1, h2, h3⟩ => by subst he; exact hk _ _ h1 h2 h3
  | halt x w' => simp only [looseUpon] at h
/-- What holds of the operations that one waits for. -/
def depHold (l : List Oper) (specs : List Spec) (j : Nat) (a : Act) (w : World) : Prop :=
  match l[j]?, specs[j]? with
  | some o, some s => s (slotv a o.dst) w
  | _, _ => True
def depsL (l : List Oper) (specs : List Spec) (a : Act) (w : World) : List Edge → Prop
  | [] => True
  | e :: es => (Region.binds .any e = true → depHold l specs e.on a w) ∧ depsL l specs a w es
theorem depsL_of {l : List Oper} {specs : List Spec} {a : Act} {w : World} : ∀ {es : List Edge}, (∀ e ∈ es, Region.binds .any e = true → depHold l specs e.on a w) → depsL l specs a w es
  | [], _ => trivial
  | _ :: _, h => ⟨h _ (List.mem_cons_self ..), depsL_of fun e he => h e (List.mem_cons_of_mem _ he)⟩
/-- The slots that are written. -/
def dstsL (l : List Oper) : List Tmp := l.filterMap (·.dst)
/-- One operation's step. -/
def StepOK (P : Program) (R : World → World → Prop) (G : Nat → World → Prop) (K0 K1 : Nat) (l : List Oper) (specs : List Spec) (a : Act) (w0 : World) (o : Oper) (s : Spec) (c : Nat) : Prop :=
  ∀ k a' w', K0 ≤ k → k + c ≤ K1 → R w0 w' → G k w' → (∀ t, (dstsL l).contains t = false → a'.tmps.getD t undef = a.tmps.getD t undef) → depsL l specs a' w' o.after.toList → looseRun P R G (k + c) s o a' w'
def looseSteps (S : Oper → Spec → Nat → Prop) : List Oper → List Spec → List Nat → Prop
  | o :: os, s :: ss, c :: cs => S o s c ∧ looseSteps S os ss cs
  | _, _, _ => True
theorem looseSteps_at {S : Oper → Spec → Nat → Prop} : ∀ {l : List Oper} {ss : List Spec} {cs : List Nat}, looseSteps S l ss cs → ∀ {i : Nat} {o : Oper} {s : Spec} {c : Nat}, l[i]? = some o → ss[i]? = some s → cs[i]? = some c → S o s c
  | o :: os, s :: ss, c :: cs, h, 0, o', s', c', h1, h2, h3 => by
    simp at h1 h2 h3; subst h1; subst h2; subst h3; exact h.1
  | o :: os, s :: ss, c :: cs, h, i + 1, o', s', c', h1, h2, h3 => looseSteps_at h.2 (i := i) (by simpa using h1) (by simpa using h2) (by simpa using h3)
  | [], _, _, _, _, _, _, _, h1, _, _ => by simp at h1
  | _ :: _, [], _, _, _, _, _, _, _, h2, _ => by simp at h2
  | _ :: _, _ :: _, [], _, _, _, _, _, _, _, h3 => by simp at h3
/-- In the end: some value of its kind in each slot. -/
def looseAll (w' : World) (K : Act → Prop) : List Oper → List Spec → Act → Prop
  | o :: os, s :: ss, a => ∀ v, s v w' → looseAll w' K os ss (a.put o.dst v)
  | _, _, a => K a
theorem tmps_put (a : Act) (d : Option Tmp) (v : Value) (t : Nat) : (a.put d v).tmps[t]? = if d = some t ∧ t < a.tmps.size then some v else a.tmps[t]? := by
  cases d with
  | none => simp [Act.put]
  | some d =>
    simp only [Act.put, Array.getElem?_setIfInBounds, Option.some.injEq]
    by_cases h : d = t
    · subst h
      by_cases h2 : d < a.tmps.size
      · simp [h2]
      · simp [h2]
    · simp [h]
theorem size_put (a : Act) (d : Option Tmp) (v : Value) : (a.put d v).tmps.size = a.tmps.size := by cases d <;> simp [Act.put]
theorem defers_put (a : Act) (d : Option Tmp) (v : Value) : (a.put d v).defers = a.defers := by cases d <;> rfl
theorem looseAll_use {w' : World} {K : Act → Prop} {a' : Act} : ∀ (l : List Oper) (ss : List Spec) (a0 : Act), ss.length = l.length → a'.tmps.size = a0.tmps.size → a'.defers = a0.defers →
    (∀ t, (dstsL l).contains t = false → a'.tmps[t]? = a0.tmps[t]?) → (∀ (i : Nat) (o : Oper) (s : Spec), l[i]? = some o → ss[i]? = some s → s (slotv a' o.dst) w') → looseAll w' K l ss a0 → K a'
  | [], [], a0, _, hs, hd, hk, _, h => by
    have ht : a'.tmps = a0.tmps := Array.ext_getElem? fun t => hk t (by rfl)
    have : a' = a0 := by cases a'; cases a0; simp at ht hd; simp [ht, hd]
    rw [this]; exact h
  | o :: os, s :: ss, a0, hl, hs, hd, hk, hp, h => by
    have hv := hp 0 o s rfl rfl
    refine looseAll_use os ss (a0.put o.dst (slotv a' o.dst)) (by simpa using hl) (by rw [size_put]; exact hs) (by rw [defers_put]; exact hd) (fun t ht => ?_) (fun i o' s' h1 h2 => hp (i + 1) o' s' (by simpa using h1) (by simpa using h2)) (h _ hv)
    rw [tmps_put]
    split
    · next hq =>
      obtain ⟨h1, h2⟩ := hq
      rw [h1]
      have h3 : t < a'.tmps.size := by rw [hs]; exact h2
      simp [slotv, h3]
    · next hq =>
      by_cases hdt : o.dst = some t
      · have h2 : ¬ t < a0.tmps.size := fun h2 => hq ⟨hdt, h2⟩
        rw [Array.getElem?_eq_none (by rw [hs]; exact Nat.not_lt.1 h2), Array.getElem?_eq_none (Nat.not_lt.1 h2)]
      · refine hk t ?_
        unfold dstsL at ht ⊢
        rw [List.filterMap_cons]
        split
        · exact ht
        · next d hd2 =>
          have hne : d ≠ t := fun e => hdt (by rw [hd2, e])
          rw [List.contains_cons, ht]
          simp [Ne.symm hne]
/-- The operations that one waits for. -/
def edgesL (o : Oper) : List Nat := (o.after.toList.filter (Region.binds .any)).map (·.on)
theorem mem_edges {o : Oper} {j : Nat} (h : j ∈ edgesL o) : ∃ e ∈ o.after, Region.binds .any e = true ∧ e.on = j := by
  unfold edgesL at h
  obtain ⟨e, he, rfl⟩ := List.mem_map.1 h
  rw [List.mem_filter] at he
  exact ⟨e, by simpa using he.1, he.2, rfl⟩
theorem edges_mem {o : Oper} {e : Edge} (he : e ∈ o.after) (hb : Region.binds .any e = true) : e.on ∈ edgesL o := List.mem_map.2 ⟨e, List.mem_filter.2 ⟨by simpa using he, hb⟩, rfl⟩
/-- Does everything below j stand behind S? -/
def allAnc (l : List Oper) : Nat → List Nat → Bool
  | 0, _ => true
  | j + 1, S => S.contains j && allAnc l j (match l[j]? with | some o => edgesL o ++ S | none => S)
theorem allAnc_sound {l : List Oper} {p : Nat → Prop} (hdc : ∀ i o, l[i]? = some o → p i → ∀ j ∈ edgesL o, p j) : ∀ {n : Nat} {S : List Nat}, allAnc l n S = true → (∀ j ∈ S, p j) → ∀ j, j < n → p j
  | 0, _, _, _, j, hj => absurd hj (by omega)
  | n + 1, S, h, hS, j, hj => by
    rw [allAnc, Bool.and_eq_true] at h
    have hn : p n := hS n (List.contains_iff_mem.1 h.1)
    rcases Nat.lt_succ_iff_lt_or_eq.1 hj with h1 | rfl
    · refine allAnc_sound hdc h.2 (fun i hi => ?_) j h1
      split at hi
      · next o ho =>
        rcases List.mem_append.1 hi with h2 | h2
        · exact hdc _ _ ho hn _ h2
        · exact hS _ h2
      · exact hS _ hi
    · exact hn
/-- What the order's freedom asks for: those of l in any order, then those of T one after the other. -/
def looseB (l T : List Oper) : Bool :=
  l.all (fun o => o.guard.isNone) && decide (dstsL l).Nodup &&
  (List.range l.length).all (fun i => match l[i]? with | some o => (edgesL o).all (fun j => decide (j < i)) | none => true) &&
  (List.range T.length).all (fun i => match T[i]? with | some o => (edgesL o).all (fun j => decide (j < l.length + i)) && (i == 0 || (edgesL o).contains (l.length + i - 1)) | none => true) &&
  (match T with | o :: _ => allAnc l l.length (edgesL o) | [] => false)
/-- How much has been spent. -/
def costL : List Nat → Nat → (Nat → Bool) → Nat
  | [], _, _ => 0
  | c :: cs, i, f => (if f i = true then c else 0) + costL cs (i + 1) f
theorem costL_congr {cs : List Nat} : ∀ {i : Nat} {f g : Nat → Bool}, (∀ j, i ≤ j → f j = g j) → costL cs i f = costL cs i g := by
  induction cs with
  | nil => intros; rfl
  | cons c cs ih => intro i f g h; rw [costL, costL, h i (Nat.le_refl _), ih (fun j hj => h j (by omega))]
theorem costL_set {cs : List Nat} : ∀ {i j c : Nat} {f g : Nat → Bool}, i ≤ j → cs[j - i]? = some c → f j = false → g j = true → (∀ t, t ≠ j → g t = f t) → costL cs i g = costL cs i f + c := by
  induction cs with
  | nil => intro i j c f g _ h; simp at h
  | cons d cs ih =>
    intro i j c f g hij hc hf hg hfg
    rw [costL, costL]
    by_cases h : i = j
    · subst h
      rw [Nat.sub_self] at hc
      obtain rfl : d = c := by simpa using hc
      rw [hf, hg, costL_congr (f := g) (g := f) (fun t ht => hfg t (by omega))]
      simp; omega
    · rw [hfg i h, ih (i := i + 1) (j := j) (by omega) (by
        rw [show j - i = (j - (i + 1)) + 1 by omega] at hc
        simpa using hc) hf hg hfg]
      omega
theorem costL_le {cs : List Nat} : ∀ {i : Nat} {f : Nat → Bool}, costL cs i f ≤ cs.sum := by
  induction cs with
  | nil => intros; simp [costL]
  | cons c cs ih => intro i f; rw [costL, List.sum_cons]; have := ih (i := i + 1) (f := f); split <;> omega
theorem costL_none {cs : List Nat} : ∀ {i : Nat}, costL cs i (fun _ => false) = 0 := by
  induction cs with
  | nil => intros; rfl
  | cons c cs ih => intro i; rw [costL, ih]; simp
theorem costL_all {cs : List Nat} : ∀ {i : Nat} {f : Nat → Bool}, (∀ j, i ≤ j → j < i + cs.length → f j = true) → costL cs i f = cs.sum := by
  induction cs with
  | nil => intros; rfl
  | cons c cs ih => intro i f h; rw [costL, List.sum_cons, h i (Nat.le_refl _) (by simp), ih (fun j h1 h2 => h j (by omega) (by simp; omega))]; simp
/-- How many are still to come. -/
def unl (n : Nat) (listed : Array Bool) : Nat := (List.range n).countP (fun i => !listed.getD i true)
theorem getD_true_of {listed : Array Bool} {i : Nat} (h : listed.getD i true = false) : i < listed.size := by
  rcases Nat.lt_or_ge i listed.size with q | q
  · exact q
  · simp [Array.getD, Nat.not_lt.2 q] at h
theorem getD_set_eq {listed : Array Bool} {i : Nat} (h : i < listed.size) (b : Bool) : (listed.setIfInBounds i true).getD i b = true := by simp [Array.getD, h]
theorem getD_both {listed : Array Bool} {i : Nat} (h : i < listed.size) (b c : Bool) : listed.getD i b = listed.getD i c := by simp [Array.getD, h]
theorem unl_set {n i : Nat} {listed : Array Bool} (hi : i < n) (h : listed.getD i true = false) : unl n (listed.setIfInBounds i true) + 1 ≤ unl n listed := by
  unfold unl
  have hlt := getD_true_of h
  have key : ∀ m, (List.range m).countP (fun j => !(listed.setIfInBounds i true).getD j true) + (if i < m then 1 else 0) ≤ (List.range m).countP (fun j => !listed.getD j true) := by
    intro m
    induction m with
    | zero => simp
    | succ m ih =>
      rw [List.range_succ, List.countP_append, List.countP_append, List.countP_cons, List.countP_cons, List.countP_nil, List.countP_nil]
      by_cases hm : i = m
      · subst hm
        rw [getD_set_eq hlt, h]
        simp at ih ⊢
        omega
      · rw [getD_set_ne true hm]
        by_cases h2 : i < m
        · have h3 : i < m + 1 := by omega
          simp only [h2, h3, if_true] at ih ⊢
          omega
        · have h3 : ¬ i < m + 1 := by omega
          simp only [h2, h3, if_false] at ih ⊢
          omega
  have := key n
  rw [if_pos hi] at this
  exact this
theorem wpAny_done {P : Program} {ops : Array Oper} {Q : Exit → Act → World → Prop} {listed : Array Bool} (h : ∀ j, j < ops.size → listed.getD j true = true) {a : Act} {w : World} (hq : Q .normal a w) : ∀ fuel, wpAny P .any ops Q fuel listed a w := by
  have hr : Region.ready .any ops listed = [] := by
    cases hx : Region.ready .any ops listed with
    | nil => rfl
    | cons j js =>
      have hj : j ∈ Region.ready .any ops listed := by rw [hx]; exact List.mem_cons_self ..
      obtain ⟨h1, o, ho, _⟩ := mem_ready.1 hj
      have hlt : j < ops.size := (Array.getElem?_eq_some_iff.1 ho).1
      rw [h j hlt] at h1; cases h1
  intro fuel
  cases fuel with
  | zero => exact ⟨hr, hq⟩
  | succ fuel => exact ⟨fun _ => hq, fun i hi => by rw [hr] at hi; cases hi⟩
section
variable {P : Program} {R : World → World → Prop} {G : Nat → World → Prop} {K0 : Nat} {l : List Oper} {fin : Oper} {specs : List Spec} {cs : List Nat} {a : Act} {w0 : World}
structure LInv (R : World → World → Prop) (G : Nat → World → Prop) (K0 : Nat) (l : List Oper) (tn : Nat) (specs : List Spec) (cs : List Nat) (a : Act) (w0 : World) (listed : Array Bool) (a' : Act) (w' : World) : Prop where
  sz : listed.size = l.length + tn
  r : R w0 w'
  g : G (K0 + costL cs 0 (fun i => listed.getD i false)) w'
  df : a'.defers = a.defers
  ts : a'.tmps.size = a.tmps.size
  kp : ∀ t, (dstsL l).contains t = false → a'.tmps[t]? = a.tmps[t]?
  sp : ∀ i o s, l[i]? = some o → specs[i]? = some s → listed.getD i false = true → s (slotv a' o.dst) w'
  fn : ∀ j, l.length ≤ j → j < l.length + tn → listed.getD j true = false
  dc : ∀ i o, l[i]? = some o → listed.getD i true = true → ∀ j ∈ edgesL o, listed.getD j true = true
theorem nodup_get {l : List Oper} (h : (dstsL l).Nodup) : ∀ {i j : Nat} {o o' : Oper} {d : Tmp}, l[i]? = some o → l[j]? = some o' → o.dst = some d → o'.dst = some d → i = j := by
  induction l with
  | nil => intro i j o o' d h1; simp at h1
  | cons x xs ih =>
    intro i j o o' d h1 h2 h3 h4
    have hm : ∀ {k : Nat} {q : Oper}, xs[k]? = some q → q.dst = some d → d ∈ dstsL xs := fun {k q} hk hq => List.mem_filterMap.2 ⟨q, List.mem_of_getElem? hk, hq⟩
    unfold dstsL at h
    rw [List.filterMap_cons] at h
    cases i with
    | zero =>
      cases j with
      | zero => rfl
      | succ j =>
        obtain rfl : x = o := by simpa using h1
        rw [h3] at h
        exact absurd (hm (by simpa using h2) h4) (List.nodup_cons.1 h).1
    | succ i =>
      cases j with
      | zero =>
        obtain rfl : x = o' := by simpa using h2
        rw [h4] at h
        exact absurd (hm (by simpa using h1) h3) (List.nodup_cons.1 h).1
      | succ j =>
        have hx : (dstsL xs).Nodup := by
          split at h
          · exact h
          · exact (List.nodup_cons.1 h).2
        have := ih hx (i := i) (j := j) (by simpa using h1) (by simpa using h2) h3 h4
        omega
theorem slotv_put_same {a : Act} {d : Tmp} {v : Value} (h : d < a.tmps.size) : slotv (a.put (some d) v) (some d) = v := by simp [slotv, Act.put, h]
theorem slotv_put_ne {a : Act} {d d' : Tmp} {v : Value} (h : d' ≠ d) : slotv (a.put (some d) v) (some d') = slotv a (some d') := by
  simp [slotv, Act.put, Array.getD_eq_getD_getElem?, Array.getElem?_setIfInBounds, Ne.symm h]
theorem ops_left {l T : List Oper} {i : Nat} (h : i < l.length) : (l ++ T).toArray[i]? = l[i]? := by rw [List.getElem?_toArray, List.getElem?_append_left h]
theorem ops_right {l T : List Oper} {i : Nat} : (l ++ T).toArray[l.length + i]? = T[i]? := by rw [List.getElem?_toArray, List.getElem?_append_right (Nat.le_add_right _ _), Nat.add_sub_cancel_left]
/-- The tail, one after the other. -/
theorem tail_seq {Q : Exit → Act → World → Prop} {l T : List Oper} (hT : ∀ i o, T[i]? = some o → (∀ j ∈ edgesL o, j < l.length + i) ∧ (i = 0 ∨ l.length + i - 1 ∈ edgesL o)) :
    ∀ (r p : Nat), p + r = T.length → ∀ fuel listed a w, r ≤ fuel → listed.size = l.length + T.length → (∀ j, j < l.length + p → listed.getD j true = true) → (∀ j, l.length + p ≤ j → j < l.length + T.length → listed.getD j true = false) → wpList P (l ++ T).toArray Q (T.drop p) a w → wpAny P .any (l ++ T).toArray Q fuel listed a w := by
  intro r
  induction r with
  | zero =>
    intro p hp fuel listed a w _ hsz hin _ hw
    rw [List.drop_of_length_le (by omega)] at hw
    exact wpAny_done (fun j hj => hin j (by simp at hj; omega)) hw fuel
  | succ r ih =>
    intro p hp fuel listed a w hf hsz hin hout hw
    cases fuel with
    | zero => omega
    | succ fuel =>
      have hpT : p < T.length := by omega
      have hTp : T[p]? = some T[p] := List.getElem?_eq_getElem hpT
      have hmem : l.length + p ∈ Region.ready .any (l ++ T).toArray listed := mem_ready.2 ⟨hout _ (Nat.le_refl _) (by omega), T[p], by rw [ops_right, hTp], fun e he hb => by
        have := (hT p _ hTp).1 _ (edges_mem he hb)
        rw [getD_both (by omega) false true]; exact hin _ this⟩
      refine ⟨(fun hr => by rw [hr] at hmem; cases hmem), fun i hi => ?_⟩
      obtain ⟨hif, o, ho, haft⟩ := mem_ready.1 hi
      have hilt : i < l.length + T.length := by have := getD_true_of hif; omega
      have hige : l.length + p ≤ i := by
        rcases Nat.lt_or_ge i (l.length + p) with q | q
        · rw [hin i q] at hif; cases hif
        · exact q
      obtain ⟨d, rfl⟩ : ∃ d, i = l.length + d := ⟨i - l.length, by omega⟩
      rw [ops_right] at ho
      have hd : d = p := by
        rcases (hT d o ho).2 with h0 | h0
        · omega
        · obtain ⟨e, he, hb, heq⟩ := mem_edges h0
          have h1 := haft e he hb
          rw [heq] at h1
          rcases Nat.lt_or_ge (l.length + d - 1) (l.length + p) with q | q
          · omega
          · rw [getD_both (by omega) false true, hout _ q (by omega)] at h1; cases h1
      subst hd
      obtain rfl : o = T[d] := by rw [hTp] at ho; exact (Option.some.inj ho).symm
      rw [List.drop_eq_getElem_cons hpT] at hw
      unfold wpOp
      rw [ops_right, hTp]
      simp only [wpList] at hw
      have hnext : ∀ a w, wpList P (l ++ T).toArray Q (T.drop (d + 1)) a w → wpAny P .any (l ++ T).toArray Q fuel (listed.setIfInBounds (l.length + d) true) a w := fun a w hw => ih (d + 1) (by omega) fuel _ a w (by omega) (by simp [hsz]) (fun j hj => by
        by_cases hj2 : j = l.length + d
        · subst hj2; exact getD_set_eq (by omega) _
        · rw [getD_set_ne true (Ne.symm hj2)]; exact hin j (by omega)) (fun j h1 h2 => by rw [getD_set_ne true (by omega)]; exact hout j (by omega) h2) hw
      show (if Region.wanted T[d] (yielded (l ++ T).toArray a.tmps) = true then _ else _)
      split at hw
      · next hq => rw [if_pos hq]; exact hw.imp (Oper.wp_mono hnext) id
      · next hq => rw [if_neg hq]; exact hnext _ _ hw
theorem wp_loose_any {T : List Oper} {Q : Exit → Act → World → Prop} (hB : looseB l T = true) (hds : ∀ o ∈ l, ∃ d, o.dst = some d ∧ d < a.tmps.size) (hlen : specs.length = l.length) (hlc : cs.length = l.length) (htrans : ∀ a b c, R a b → R b c → R a c)
    (hstab : ∀ s ∈ specs, ∀ v w w', R w w' → s v w → s v w')
    (hsteps : looseSteps (StepOK P R G K0 (K0 + cs.sum) l specs a w0) l specs cs)
    (hend : ∀ w', R w0 w' → G (K0 + cs.sum) w' → looseAll w' (fun a' => wpList P (l ++ T).toArray Q T a' w') l specs a) :
    ∀ fuel listed a' w', LInv R G K0 l T.length specs cs a w0 listed a' w' → unl (l.length + T.length) listed ≤ fuel → wpAny P .any (l ++ T).toArray Q fuel listed a' w' := by
  simp only [looseB, Bool.and_eq_true, List.all_eq_true, decide_eq_true_eq] at hB
  obtain ⟨⟨⟨⟨hg1, hnd⟩, hlex⟩, hT0⟩, hanc⟩ := hB
  have hT : ∀ i o, T[i]? = some o → (∀ j ∈ edgesL o, j < l.length + i) ∧ (i = 0 ∨ l.length + i - 1 ∈ edgesL o) := fun i o ho => by
    have h1 := hT0 i (List.mem_range.2 (List.getElem?_eq_some_iff.1 ho).1)
    rw [ho] at h1
    simp only [Bool.and_eq_true, List.all_eq_true, decide_eq_true_eq, Bool.or_eq_true, beq_iff_eq, List.contains_iff_mem] at h1
    exact h1
  have hT1 : ∃ t ts, T = t :: ts := by
    cases T with
    | nil => cases hanc
    | cons t ts => exact ⟨t, ts, rfl⟩
  have hTl : 0 < T.length := by obtain ⟨t, ts, rfl⟩ := hT1; simp
  intro fuel
  induction fuel with
  | zero =>
    intro listed a' w' hI hu
    exfalso
    have : 0 < unl (l.length + T.length) listed := by
      unfold unl
      rw [List.countP_pos_iff]
      exact ⟨l.length, by simp; omega, by rw [hI.fn _ (Nat.le_refl _) (by omega)]; rfl⟩
    omega
  | succ fuel ih =>
    intro listed a' w' hI hu
    by_cases hall : ∀ j, j < l.length → listed.getD j true = true
    · have hg := hI.g
      rw [costL_all (fun j _ h2 => by rw [getD_both (by rw [hI.sz]; omega) false true]; exact hall j (by omega))] at hg
      have hK := looseAll_use l specs a hlen hI.ts hI.df hI.kp (fun j o s h1 h2 => hI.sp j o s h1 h2 (by
        have hj := (List.getElem?_eq_some_iff.1 h1).1
        rw [getD_both (by rw [hI.sz]; omega) false true]; exact hall j hj)) (hend w' hI.r hg)
      refine tail_seq hT T.length 0 (by omega) (fuel + 1) listed a' w' ?_ hI.sz (fun j hj => hall j (by omega)) (fun j h1 h2 => hI.fn j (by omega) h2) hK
      have h1 : T.length ≤ unl (l.length + T.length) listed := by
        have key : ∀ k, k ≤ T.length → k ≤ unl (l.length + k) listed := by
          intro k
          induction k with
          | zero => intro _; exact Nat.zero_le _
          | succ k ihk =>
            intro hk
            have h2 := ihk (by omega)
            unfold unl at h2 ⊢
            rw [show l.length + (k + 1) = (l.length + k) + 1 by omega, List.range_succ, List.countP_append, List.countP_cons, List.countP_nil, hI.fn (l.length + k) (by omega) (by omega)]
            simp at h2 ⊢; omega
        exact key _ (Nat.le_refl _)
      omega
    · refine ⟨fun hr => ?_, fun i hi => ?_⟩
      · exfalso
        -- the least one that has not come up may come up
        have hex : ∃ m, m < l.length ∧ listed.getD m true = false ∧ ∀ j, j < m → listed.getD j true = true := by
          have : ∀ n, n < l.length → listed.getD n true = false → ∃ m, m < l.length ∧ listed.getD m true = false ∧ ∀ j, j < m → listed.getD j true = true := by
            intro n
            induction n using Nat.strongRecOn with
            | _ n ihn =>
              intro hn hf
              by_cases h : ∃ j, j < n ∧ listed.getD j true = false
              · obtain ⟨j, hj, hjf⟩ := h
                exact ihn j hj (by omega) hjf
              · exact ⟨n, hn, hf, fun j hj => by
                  cases hq : listed.getD j true
                  · exact absurd ⟨j, hj, hq⟩ h
                  · rfl⟩
          apply Decidable.byContradiction
          intro hno
          exact hall fun j hj => by
            cases hq : listed.getD j true
            · exact absurd (this j hj hq) hno
            · rfl
        obtain ⟨m, hm, hmf, hml⟩ := hex
        have hmem : m ∈ Region.ready .any (l ++ T).toArray listed := by
          refine mem_ready.2 ⟨hmf, l[m], by rw [ops_left hm, List.getElem?_eq_getElem hm], fun e he hb => ?_⟩
          have h1 := hlex m (List.mem_range.2 hm)
          rw [List.getElem?_eq_getElem hm] at h1
          have h3 : e.on < m := by simpa using (List.all_eq_true.1 h1) _ (edges_mem he hb)
          rw [getD_both (by rw [hI.sz]; omega) false true]; exact hml _ h3
        rw [hr] at hmem
        cases hmem
      · obtain ⟨hif, o, ho, haft⟩ := mem_ready.1 hi
        have hilt : i < l.length := by
          rcases Nat.lt_or_ge i l.length with q | q
          · exact q
          · exfalso
            have hi2 : i < l.length + T.length := by have := getD_true_of hif; rw [hI.sz] at this; exact this
            obtain ⟨d, rfl⟩ : ∃ d, i = l.length + d := ⟨i - l.length, by omega⟩
            rw [ops_right] at ho
            rcases (hT d o ho).2 with rfl | h0
            · obtain ⟨t, ts, rfl⟩ := hT1
              obtain rfl : t = o := by simpa using ho
              refine hall (fun j hj => ?_)
              have := allAnc_sound (p := fun j => listed.getD j true = true) hI.dc hanc (fun j hj => by
                obtain ⟨e, he, hb, rfl⟩ := mem_edges hj
                have h1 := haft e he hb
                have h2 := (hT 0 t rfl).1 _ hj
                rwa [getD_both (by rw [hI.sz]; simp at h2 ⊢; omega) false true] at h1) j hj
              exact this
            · obtain ⟨e, he, hb, heq⟩ := mem_edges h0
              have h1 := haft e he hb
              rw [heq] at h1
              have hd0 : 0 < d := by
                rcases Nat.eq_zero_or_pos d with q0 | q0
                · subst q0
                  have := (hT 0 o ho).1 _ h0
                  rcases Nat.eq_zero_or_pos l.length with z | z
                  · exact absurd (fun j hj => by omega) hall
                  · exfalso
                    obtain ⟨t, ts, rfl⟩ := hT1
                    obtain rfl : t = o := by simpa using ho
                    refine hall (fun j hj => ?_)
                    exact allAnc_sound (p := fun j => listed.getD j true = true) hI.dc hanc (fun j hj => by
                      obtain ⟨e, he, hb, rfl⟩ := mem_edges hj
                      have h1 := haft e he hb
                      have h2 := (hT 0 t rfl).1 _ hj
                      rwa [getD_both (by rw [hI.sz]; simp at h2 ⊢; omega) false true] at h1) j hj
                · exact q0
              rw [getD_both (by rw [hI.sz]; omega) false true, hI.fn _ (by omega) (by omega)] at h1
              cases h1
        rw [ops_left hilt] at ho
        have hlo := ho
        obtain ⟨s, hs⟩ : ∃ s, specs[i]? = some s := ⟨_, List.getElem?_eq_getElem (by omega)⟩
        obtain ⟨c, hc⟩ : ∃ c, cs[i]? = some c := ⟨_, List.getElem?_eq_getElem (by omega)⟩
        have hst := looseSteps_at hsteps hlo hs hc
        have hgn : o.guard = none := by have := hg1 o (List.mem_of_getElem? hlo); simpa using this
        have hset := costL_set (cs := cs) (i := 0) (j := i) (c := c) (f := fun t => listed.getD t false) (g := fun t => (listed.setIfInBounds i true).getD t false) (Nat.zero_le _) (by simpa using hc)
          (by show listed.getD i false = false; rw [getD_both (getD_true_of hif) false true]; exact hif) (getD_set_eq (getD_true_of hif) _) (fun t ht => getD_set_ne false (Ne.symm ht))
        have hle : K0 + costL cs 0 (fun t => listed.getD t false) + c ≤ K0 + cs.sum := by
          have := costL_le (cs := cs) (i := 0) (f := fun t => (listed.setIfInBounds i true).getD t false)
          rw [hset] at this; omega
        have hrun := hst _ a' w' (Nat.le_add_right _ _) hle hI.r hI.g (fun t ht => by
          have := hI.kp t ht
          simp only [Array.getD_eq_getD_getElem?, this]) (depsL_of fun e he hb => by
          unfold depHold
          split
          · next o' s' h1 h2 => exact hI.sp _ _ _ h1 h2 (haft e (by simpa using he) hb)
          · trivial)
        unfold wpOp
        rw [ops_left hilt, ho]
        have hw : Region.wanted o (yielded (l ++ T).toArray a'.tmps) = true := by simp [Region.wanted, hgn]
        simp only [hw, if_true]
        refine .inl (wp_of_loose hrun fun v w'' hR hG hsv => ?_)
        refine ih _ _ _ ⟨by simp [hI.sz], htrans _ _ _ hI.r hR, ?_, by rw [defers_put]; exact hI.df, by rw [size_put]; exact hI.ts, fun t ht => ?_, fun j o' s' h1 h2 h3 => ?_, fun j h1 h2 => ?_, fun j o' h1 h2 q hq => ?_⟩ (by have := unl_set (n := l.length + T.length) (by omega) hif; omega)
        · have hset' : costL cs 0 (fun t => (listed.setIfInBounds i true).getD t false) = costL cs 0 (fun t => listed.getD t false) + c := hset
          rw [hset', ← Nat.add_assoc]; exact hG
        · rw [tmps_put, if_neg]
          · exact hI.kp t ht
          · rintro ⟨hd, _⟩
            have : t ∈ dstsL l := List.mem_filterMap.2 ⟨o, List.mem_of_getElem? hlo, hd⟩
            rw [List.contains_iff_mem.2 this] at ht; cases ht
        · by_cases hji : j = i
          · subst hji
            obtain rfl : o' = o := by rw [h1] at hlo; exact Option.some.inj hlo
            obtain rfl : s' = s := by rw [h2] at hs; exact Option.some.inj hs
            obtain ⟨d, hd, hdl⟩ := hds o' (List.mem_of_getElem? h1)
            rw [hd, slotv_put_same (by rw [hI.ts]; exact hdl)]
            exact hsv
          · obtain ⟨d, hd, _⟩ := hds o' (List.mem_of_getElem? h1)
            obtain ⟨d2, hd2, _⟩ := hds o (List.mem_of_getElem? hlo)
            have hne : d ≠ d2 := fun e => hji (nodup_get hnd h1 hlo hd (by rw [hd2, e]))
            rw [getD_set_ne false (Ne.symm hji)] at h3
            have h4 := hI.sp j o' s' h1 h2 h3
            rw [hd] at h4 ⊢
            rw [hd2, slotv_put_ne hne]
            exact hstab s' (List.mem_of_getElem? h2) _ _ _ hR h4
        · rw [getD_set_ne true (by omega)]; exact hI.fn j h1 h2
        · have hql : q < l.length := by
            have hj := (List.getElem?_eq_some_iff.1 h1).1
            have h5 := hlex j (List.mem_range.2 hj)
            rw [h1] at h5
            have h6 : q < j := by simpa using (List.all_eq_true.1 h5) _ hq
            omega
          by_cases hqi : q = i
          · subst hqi; exact getD_set_eq (getD_true_of hif) _
          · rw [getD_set_ne true (Ne.symm hqi)]
            by_cases hji : j = i
            · subst hji
              obtain rfl : o' = o := by rw [h1] at hlo; exact Option.some.inj hlo
              obtain ⟨e, he, hb, rfl⟩ := mem_edges hq
              have := haft e he hb
              rwa [getD_both (by rw [hI.sz]; omega) false true] at this
            · rw [getD_set_ne true (Ne.symm hji)] at h2
              exact hI.dc j o' h1 h2 q hq
end
theorem looseAll_cons {w' : World} {K : Act → Prop} {o : Oper} {os : List Oper} {s : Spec} {ss : List Spec} {a : Act} (h : ∀ v, s v w' → looseAll w' K os ss (a.put o.dst v)) : looseAll w' K (o :: os) (s :: ss) a := h
theorem looseAll_nil {w' : World} {K : Act → Prop} {ss : List Spec} {a : Act} (h : K a) : looseAll w' K [] ss a := by cases ss <;> exact h
theorem looseSteps_cons {S : Oper → Spec → Nat → Prop} {o : Oper} {os : List Oper} {s : Spec} {ss : List Spec} {c : Nat} {cs : List Nat} (h : S o s c) (h2 : looseSteps S os ss cs) : looseSteps S (o :: os) (s :: ss) (c :: cs) := ⟨h, h2⟩
theorem looseSteps_nil {S : Oper → Spec → Nat → Prop} : looseSteps S [] [] [] := trivial
theorem wp_region_loose {P : Program} {R : World → World → Prop} {G : Nat → World → Prop} (n K0 : Nat) {L : List Oper} (specs : List Spec) (cs : List Nat) {id : Nat} {Q : Exit → Act → World → Prop} {a : Act} {w : World}
    (hm : P.follows .mixedOrders = true) (hB : looseB (L.take n) (L.drop n) = true) (hds : ((L.take n).all fun o => match o.dst with | some d => decide (d < a.tmps.size) | none => false) = true)
    (hlen : specs.length = (L.take n).length) (hlc : cs.length = (L.take n).length) (hrefl : ∀ w, R w w) (htrans : ∀ a b c, R a b → R b c → R a c) (hstab : ∀ s ∈ specs, ∀ v w w', R w w' → s v w → s v w')
    (hG : G K0 w.drew) (hsteps : looseSteps (StepOK P R G K0 (K0 + cs.sum) (L.take n) specs a w.drew) (L.take n) specs cs)
    (hend : ∀ w', R w.drew w' → G (K0 + cs.sum) w' → looseAll w' (fun a' => wpList P L.toArray Q (L.drop n) a' w') (L.take n) specs a) : (Code.region id L.toArray true).wp P Q a w := by
  have hL : L = L.take n ++ L.drop n := (List.take_append_drop n L).symm
  have hend' : ∀ w', R w.drew w' → G (K0 + cs.sum) w' → looseAll w' (fun a' => wpList P (L.take n ++ L.drop n).toArray Q (L.drop n) a' w') (L.take n) specs a := by rw [← hL]; exact hend
  rw [hL]
  refine wp_region_any hm ?_
  have hsz : (L.take n ++ L.drop n).toArray.size = (L.take n).length + (L.drop n).length := by rw [List.size_toArray, List.length_append]
  rw [hsz]
  have hds' : ∀ o ∈ L.take n, ∃ d, o.dst = some d ∧ d < a.tmps.size := fun o ho => by
    have := List.all_eq_true.1 hds o ho
    cases hd : o.dst with
    | none => rw [hd] at this; cases this
    | some d => rw [hd] at this; exact ⟨d, rfl, by simpa using this⟩
  have hrep : ∀ j, j < (L.take n).length + (L.drop n).length → (Array.replicate ((L.take n).length + (L.drop n).length) false).getD j true = false := fun j hj => by
    rw [Array.getD_eq_getD_getElem?, Array.getElem?_replicate, if_pos hj]; rfl
  refine wp_loose_any hB hds' hlen hlc htrans hstab hsteps hend' _ _ a _ ⟨Array.size_replicate, hrefl _, ?_, rfl, rfl, fun _ _ => rfl, fun i o s h1 _ h => ?_, fun j _ h2 => hrep j h2, fun i o h1 h2 => ?_⟩ ?_
  · have : costL cs 0 (fun i => (Array.replicate ((L.take n).length + (L.drop n).length) false).getD i false) = 0 := by
      rw [costL_congr (g := fun _ => false) (fun j _ => by
        rw [Array.getD_eq_getD_getElem?, Array.getElem?_replicate]; split <;> rfl), costL_none]
    rw [this]; exact hG
  · rw [Array.getD_eq_getD_getElem?, Array.getElem?_replicate] at h
    split at h <;> cases h
  · have := hrep i (by have := (List.getElem?_eq_some_iff.1 h1).1; omega)
    rw [this] at h2; cases h2
  · exact Nat.le_trans List.countP_le_length (by simp)
end Go.Proofs.Ytfnmlffpnmmcdaa
