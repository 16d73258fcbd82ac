/- Plain laws of timelines, the third part: two of them merged. -/
import Derived.Test.YthkdofflfaikgaaTimePlain2
namespace Go.Proofs.Ythkdofflfaikgaa
/-- All of both, in order, each once. -/
def mg : List ElPost → List ElPost → List ElPost
  | [], vs => vs
  | a :: us, [] => a :: us
  | a :: us, b :: vs => if befB a b = true then a :: mg us (b :: vs) else if befB b a = true then b :: mg (a :: us) vs else a :: mg us vs
termination_by a b => a.length + b.length
theorem mg_nil_left (vs : List ElPost) : mg [] vs = vs := by rw [mg]
theorem mg_nil_right (us : List ElPost) : mg us [] = us := by cases us <;> rw [mg]
theorem mg_cons (a b : ElPost) (us vs : List ElPost) : mg (a :: us) (b :: vs) = if befB a b = true then a :: mg us (b :: vs) else if befB b a = true then b :: mg (a :: us) vs else a :: mg us vs := by rw [mg]
theorem drop_cons {xs : List ElPost} {k : Nat} (h : k < xs.length) : xs.drop k = gt xs k :: xs.drop (k + 1) := by
  unfold gt; rw [List.getElem?_eq_getElem h, Option.getD_some]; exact List.drop_eq_getElem_cons h
/-- The step that takes from the first one. -/
theorem mg_first {xs ys : List ElPost} {k j : Nat} (hk : k < xs.length) (h : ys.length ≤ j ∨ befB (gt xs k) (gt ys j) = true) : mg (xs.drop k) (ys.drop j) = gt xs k :: mg (xs.drop (k + 1)) (ys.drop j) := by
  rw [drop_cons hk]
  rcases Nat.lt_or_ge j ys.length with hj | hj
  · have hc : befB (gt xs k) (gt ys j) = true := by
      rcases h with h | h
      · omega
      · exact h
    rw [drop_cons hj, mg_cons, if_pos hc]
  · rw [List.drop_eq_nil_of_le hj, mg_nil_right, mg_nil_right]
theorem mg_second {xs ys : List ElPost} {k j : Nat} (hj : j < ys.length) (h : xs.length ≤ k ∨ (befB (gt xs k) (gt ys j) = false ∧ befB (gt ys j) (gt xs k) = true)) : mg (xs.drop k) (ys.drop j) = gt ys j :: mg (xs.drop k) (ys.drop (j + 1)) := by
  rw [drop_cons hj]
  rcases Nat.lt_or_ge k xs.length with hk | hk
  · rcases h with h | ⟨h1, h2⟩
    · omega
    · rw [drop_cons hk, mg_cons, if_neg (by rw [h1]; simp), if_pos h2]
  · rw [List.drop_eq_nil_of_le hk, mg_nil_left, mg_nil_left]
theorem mg_both {xs ys : List ElPost} {k j : Nat} (hk : k < xs.length) (hj : j < ys.length) (h1 : befB (gt xs k) (gt ys j) = false) (h2 : befB (gt ys j) (gt xs k) = false) : mg (xs.drop k) (ys.drop j) = gt xs k :: mg (xs.drop (k + 1)) (ys.drop (j + 1)) := by
  rw [drop_cons hk, drop_cons hj, mg_cons, if_neg (by rw [h1]; simp), if_neg (by rw [h2]; simp)]
theorem mg_len (xs ys : List ElPost) : (mg xs ys).length ≤ xs.length + ys.length := by
  induction xs, ys using mg.induct with
  | case1 vs => rw [mg_nil_left]; simp
  | case2 a us => rw [mg_nil_right]; simp
  | case3 a us b vs h ih => rw [mg_cons, if_pos h]; simp at ih ⊢; omega
  | case4 a us b vs h h2 ih => rw [mg_cons, if_neg h, if_pos h2]; simp at ih ⊢; omega
  | case5 a us b vs h h2 ih => rw [mg_cons, if_neg h, if_neg h2]; simp at ih ⊢; omega
/-- MergeTimelines' answer. -/
def mergeOf (xs ys : List ElPost) : List ElPost := if tvB xs = true ∧ tvB ys = true then (mg xs ys).take 40 else []
theorem mergeOf_yes {xs ys : List ElPost} (h : tvB xs = true) (k : tvB ys = true) : mergeOf xs ys = (mg xs ys).take 40 := if_pos ⟨h, k⟩
theorem mergeOf_no {xs ys : List ElPost} (h : ¬ (tvB xs = true ∧ tvB ys = true)) : mergeOf xs ys = [] := if_neg h
theorem mergeOf_len (xs ys : List ElPost) : (mergeOf xs ys).length ≤ 40 := by
  unfold mergeOf
  split
  · simp; omega
  · simp
/-- Done: all taken, or enough. -/
theorem mergeOf_end {xs ys cur : List ElPost} {k j : Nat} (h : tvB xs = true) (h' : tvB ys = true) (hc : mg xs ys = cur ++ mg (xs.drop k) (ys.drop j)) (hl : cur.length ≤ 40) (he : (xs.length ≤ k ∧ ys.length ≤ j) ∨ 40 ≤ cur.length) : mergeOf xs ys = cur := by
  rw [mergeOf_yes h h', hc]
  rcases he with ⟨h1, h2⟩ | h1
  · rw [List.drop_eq_nil_of_le h1, List.drop_eq_nil_of_le h2, mg_nil_left, List.append_nil, List.take_of_length_le hl]
  · rw [List.take_append_of_le_length h1, List.take_of_length_le hl]
/-! ### Members and order -/
theorem mg_mem (xs ys : List ElPost) (p : ElPost) : p ∈ mg xs ys ↔ p ∈ xs ∨ p ∈ ys := by
  induction xs, ys using mg.induct with
  | case1 vs => rw [mg_nil_left]; simp
  | case2 a us => rw [mg_nil_right]; simp
  | case3 a us b vs h ih => rw [mg_cons, if_pos h, List.mem_cons, ih]; simp [or_assoc]
  | case4 a us b vs h h2 ih => rw [mg_cons, if_neg h, if_pos h2, List.mem_cons, ih]; simp only [List.mem_cons]; constructor <;> (rintro (h | h | h) <;> simp_all)
  | case5 a us b vs h h2 ih =>
    rw [mg_cons, if_neg h, if_neg h2, List.mem_cons, ih]
    have hab : a = b := by
      rcases bef_tri a b with h3 | h3 | h3
      · exact absurd (befB_true h3) h
      · exact h3
      · exact absurd (befB_true h3) h2
    subst hab
    simp only [List.mem_cons]; constructor <;> (intro h; simp_all) <;> grind
/-- In order, each before all that follow. -/
def Srt (xs : List ElPost) : Prop := xs.Pairwise Bef
theorem Srt.mg {xs ys : List ElPost} (h : Srt xs) (h' : Srt ys) : Srt (mg xs ys) := by
  induction xs, ys using mg.induct with
  | case1 vs => rw [mg_nil_left]; exact h'
  | case2 a us => rw [mg_nil_right]; exact h
  | case3 a us b vs hb ih =>
    rw [mg_cons, if_pos hb]
    refine List.pairwise_cons.2 ⟨fun q hq => ?_, ih (List.pairwise_cons.1 h).2 h'⟩
    rcases (mg_mem _ _ _).1 hq with hq | hq
    · exact (List.pairwise_cons.1 h).1 q hq
    · rcases List.mem_cons.1 hq with rfl | hq
      · exact Bef.of hb
      · exact (Bef.of hb).trans ((List.pairwise_cons.1 h').1 q hq)
  | case4 a us b vs hb hb2 ih =>
    rw [mg_cons, if_neg hb, if_pos hb2]
    refine List.pairwise_cons.2 ⟨fun q hq => ?_, ih h (List.pairwise_cons.1 h').2⟩
    rcases (mg_mem _ _ _).1 hq with hq | hq
    · rcases List.mem_cons.1 hq with rfl | hq
      · exact Bef.of hb2
      · exact (Bef.of hb2).trans ((List.pairwise_cons.1 h).1 q hq)
    · exact (List.pairwise_cons.1 h').1 q hq
  | case5 a us b vs hb hb2 ih =>
    rw [mg_cons, if_neg hb, if_neg hb2]
    have hab : a = b := by
      rcases bef_tri a b with h3 | h3 | h3
      · exact absurd (befB_true h3) hb
      · exact h3
      · exact absurd (befB_true h3) hb2
    subst hab
    refine List.pairwise_cons.2 ⟨fun q hq => ?_, ih (List.pairwise_cons.1 h).2 (List.pairwise_cons.1 h').2⟩
    rcases (mg_mem _ _ _).1 hq with hq | hq
    · exact (List.pairwise_cons.1 h).1 q hq
    · exact (List.pairwise_cons.1 h').1 q hq
theorem Srt.ext : ∀ {xs ys : List ElPost}, Srt xs → Srt ys → (∀ p, p ∈ xs ↔ p ∈ ys) → xs = ys := by
  intro xs
  induction xs with
  | nil => intro ys _ _ h; cases ys with
    | nil => rfl
    | cons y ys => have := (h y).2 (by simp); simp at this
  | cons x xs ih =>
    intro ys hx hy h
    cases ys with
    | nil => have := (h x).1 (by simp); simp at this
    | cons y ys =>
      obtain ⟨hx1, hx2⟩ := List.pairwise_cons.1 hx
      obtain ⟨hy1, hy2⟩ := List.pairwise_cons.1 hy
      have hxy : x = y := by
        rcases List.mem_cons.1 ((h x).1 (by simp)) with e | e
        · exact e
        · rcases List.mem_cons.1 ((h y).2 (by simp)) with e' | e'
          · exact e'.symm
          · exact absurd (hy1 x e) (hx1 y e').asymm
      subst hxy
      rw [ih hx2 hy2 (fun p => ⟨fun hp => by
        rcases List.mem_cons.1 ((h p).1 (List.mem_cons_of_mem _ hp)) with e | e
        · subst e; exact absurd (hx1 _ hp) Bef.irrefl
        · exact e, fun hp => by
        rcases List.mem_cons.1 ((h p).2 (List.mem_cons_of_mem _ hp)) with e | e
        · subst e; exact absurd (hy1 _ hp) Bef.irrefl
        · exact e⟩)]
theorem Tv.srt {xs : List ElPost} (h : Tv xs) : Srt xs := by
  refine List.pairwise_iff_getElem.2 fun i j hi hj hij => ?_
  have := h.sorted j i hij hj
  simpa [gt, hi, hj] using this
theorem Tv.of_srt {xs : List ElPost} (hl : xs.length ≤ 40) (h1 : ∀ p ∈ xs, OkP p) (h : Srt xs) : Tv xs :=
  Tv.mk hl h1 fun i j hij hj => by
    have := List.pairwise_iff_getElem.1 h i j (by omega) hj hij
    simpa [gt, hj, show i < xs.length by omega] using this
theorem mg_comm {xs ys : List ElPost} (h : Srt xs) (h' : Srt ys) : mg xs ys = mg ys xs := Srt.ext (h.mg h') (h'.mg h) fun p => by rw [mg_mem, mg_mem, or_comm]
theorem mg_self {xs : List ElPost} (h : Srt xs) : mg xs xs = xs := Srt.ext (h.mg h) h fun p => by rw [mg_mem, or_self]
theorem mergeOf_comm (xs ys : List ElPost) : mergeOf xs ys = mergeOf ys xs := by
  unfold mergeOf
  by_cases h : tvB xs = true ∧ tvB ys = true
  · rw [if_pos h, if_pos h.symm, mg_comm (Tv.of h.1).srt (Tv.of h.2).srt]
  · rw [if_neg h, if_neg (fun k => h k.symm)]
theorem mergeOf_self {xs : List ElPost} (h : tvB xs = true) : mergeOf xs xs = xs := by
  rw [mergeOf_yes h h, mg_self (Tv.of h).srt, List.take_of_length_le (Tv.of h).1]
theorem mergeOf_valid {xs ys : List ElPost} (h : tvB xs = true) (k : tvB ys = true) : tvB (mergeOf xs ys) = true := by
  refine decide_eq_true (Tv.of_srt (mergeOf_len _ _) (fun p hp => ?_) ?_)
  · rw [mergeOf_yes h k] at hp
    rcases (mg_mem _ _ _).1 (List.mem_of_mem_take hp) with hp | hp
    · exact (Tv.of h).ok hp
    · exact (Tv.of k).ok hp
  · rw [mergeOf_yes h k]
    exact List.Pairwise.sublist (List.take_sublist _ _) ((Tv.of h).srt.mg (Tv.of k).srt)
theorem mergeOf_len2 (xs ys : List ElPost) : (mergeOf xs ys).length ≤ xs.length + ys.length := by
  unfold mergeOf
  split
  · have := mg_len xs ys; simp; omega
  · simp
/-! ### A post put in -/
theorem insAt_mem (xs : List ElPost) (p q : ElPost) : q ∈ insAt xs p ↔ q = p ∨ q ∈ xs := by
  unfold insAt
  have h := List.take_append_drop (posOf xs p) xs
  have : q ∈ xs ↔ q ∈ xs.take (posOf xs p) ∨ q ∈ xs.drop (posOf xs p) := by rw [← List.mem_append, h]
  rw [this]
  simp only [List.mem_append, List.mem_singleton]
  constructor
  · rintro ((h | h) | h) <;> simp_all
  · rintro (h | h | h) <;> simp_all
/-- What is in it already cannot be put into it. -/
theorem ins_twice {xs : List ElPost} {p : ElPost} (hp : p ∈ xs) : tvB (insAt xs p) = false := by
  cases hv : tvB (insAt xs p) with
  | false => rfl
  | true =>
    exfalso
    have hs := (Tv.of hv).srt
    unfold insAt Srt at hs
    rw [List.append_assoc, List.pairwise_append] at hs
    obtain ⟨_, h2, h3⟩ := hs
    rw [List.pairwise_append] at h2
    have h := List.take_append_drop (posOf xs p) xs
    rw [← h, List.mem_append] at hp
    rcases hp with hp | hp
    · exact Bef.irrefl (h3 p hp p (by simp))
    · exact Bef.irrefl (h2.2.2 p (by simp) p hp)
theorem putOk_twice {xs : List ElPost} {p : ElPost} (hp : p ∈ xs) : putOk xs p = false := by rw [putOk, ins_twice hp, Bool.and_false]
theorem putOk_again {xs : List ElPost} {p : ElPost} (h : putOk xs p = true) : putOk (putOf xs p) p = false := by
  rw [putOk, Bool.and_eq_true] at h
  rw [(putOf_yes h.1 h.2).1]
  exact putOk_twice ((insAt_mem _ _ _).2 (.inl rfl))
theorem put_merge {xs : List ElPost} {p : ElPost} (h : putOk xs p = true) : mergeOf xs [p] = putOf xs p ∧ tvB [p] = true := by
  rw [putOk, Bool.and_eq_true] at h
  have hT := Tv.of h.2
  have hp : tvB [p] = true := decide_eq_true (Tv.of_srt (by simp) (fun q hq => by
    rw [List.mem_singleton] at hq; subst hq; exact hT.ok ((insAt_mem _ _ _).2 (.inl rfl))) (by unfold Srt; simp))
  refine ⟨?_, hp⟩
  rw [(putOf_yes h.1 h.2).1, mergeOf_yes h.1 hp]
  have he : mg xs [p] = insAt xs p := Srt.ext ((Tv.of h.1).srt.mg (Tv.of hp).srt) hT.srt fun q => by rw [mg_mem, insAt_mem, List.mem_singleton, or_comm]
  rw [he, List.take_of_length_le hT.1]
theorem putOf_len1 {xs : List ElPost} {p : ElPost} (h : putOk xs p = true) : (putOf xs p).length = xs.length + 1 := by
  rw [putOk, Bool.and_eq_true] at h
  rw [(putOf_yes h.1 h.2).1, insAt_len]
theorem putOf_bad_or {xs : List ElPost} {p : ElPost} (h : putOk xs p = false) : putOf xs p = xs ∨ putOf xs p = [] := by
  unfold putOf
  by_cases h1 : tvB xs = true
  · rw [if_pos h1]
    by_cases h2 : tvB (insAt xs p) = true
    · rw [putOk, h1, h2] at h; cases h
    · rw [if_neg h2]; exact .inl rfl
  · rw [if_neg h1]; exact .inr rfl
/-- In a merged one where there is room for all: every post of the first. -/
theorem merge_has {xs ys : List ElPost} (h : tvB xs = true) (k : tvB ys = true) (hl : xs.length + ys.length ≤ 40) {p : ElPost} (hp : p ∈ xs) : putOk (mergeOf xs ys) p = false := by
  refine putOk_twice ?_
  rw [mergeOf_yes h k, List.take_of_length_le (by have := mg_len xs ys; omega)]
  exact (mg_mem _ _ _).2 (.inl hp)
/-! ### Posts before -/
theorem pb_when {xs : List ElPost} {when many : Int} {p : ElPost} (h : p ∈ postsBefore xs when many) : p.1 ≤ when := by
  unfold postsBefore at h
  split at h
  · have := (List.mem_filter.1 (List.mem_of_mem_take h)).2
    simpa using this
  · simp at h
theorem pb_all {xs : List ElPost} {when many : Int} (h0 : 0 ≤ many) (h1 : many ≤ 40) : postsBefore xs when many = (postsBefore xs when 40).take many.toNat := by
  by_cases h : tvB xs = true
  · rw [postsBefore_yes h h0 h1, postsBefore_yes h (by omega) (by omega)]
    unfold pbTo
    rw [List.take_take]
    congr 1
    omega
  · rw [postsBefore_no (fun k => h k.1), postsBefore_no (fun k => h k.1)]; simp
theorem pb_len {xs : List ElPost} {when many : Int} : (postsBefore xs when many).length ≤ 40 := by
  unfold postsBefore
  split
  · next h => have := pbTo_len xs when many xs.length; have := (Tv.of h.1).1; omega
  · simp
end Go.Proofs.Ythkdofflfaikgaa
