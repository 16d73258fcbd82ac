/- Lists of elements of several cells each: what a slice of them holds. -/
import Derived.Test.YtfnmlffpnmmcdaaOwn
namespace Go.Proofs.Ytfnmlffpnmmcdaa
open Go.RowKit
section
variable {α : Type} [Inhabited α]
/-- The element at a place. -/
def gt (xs : List α) (k : Nat) : α := xs[k]?.getD default
theorem gt_append (xs ys : List α) (k : Nat) : gt (xs ++ ys) k = if k < xs.length then gt xs k else gt ys (k - xs.length) := by
  unfold gt; rw [List.getElem?_append]; split <;> rfl
theorem gt_left {xs ys : List α} {k : Nat} (h : k < xs.length) : gt (xs ++ ys) k = gt xs k := by rw [gt_append, if_pos h]
theorem gt_last (xs : List α) (y : α) : gt (xs ++ [y]) xs.length = y := by rw [gt_append, if_neg (Nat.lt_irrefl _), Nat.sub_self]; rfl
theorem gt_take {xs : List α} {k j : Nat} (h : j < k) : gt (xs.take k) j = gt xs j := by unfold gt; rw [List.getElem?_take, if_pos h]
theorem gt_drop (xs : List α) (k j : Nat) : gt (xs.drop k) j = gt xs (k + j) := by unfold gt; rw [List.getElem?_drop]
theorem gt_mem {xs : List α} {k : Nat} (h : k < xs.length) : gt xs k ∈ xs := by unfold gt; rw [List.getElem?_eq_getElem h]; exact List.getElem_mem h
theorem mem_gt {xs : List α} {x : α} (h : x ∈ xs) : ∃ k, k < xs.length ∧ gt xs k = x := by
  obtain ⟨k, hk, rfl⟩ := List.getElem_of_mem h
  exact ⟨k, hk, by unfold gt; rw [List.getElem?_eq_getElem hk]; rfl⟩
theorem gt_ext {xs ys : List α} (hl : xs.length = ys.length) (h : ∀ j, j < xs.length → gt xs j = gt ys j) : xs = ys := by
  apply List.ext_getElem hl
  intro j h1 h2
  have := h j h1
  simpa [gt, h1, h2] using this
theorem gt_cons (x : α) (xs : List α) (k : Nat) : gt (x :: xs) (k + 1) = gt xs k := rfl
theorem gt_head (x : α) (xs : List α) : gt (x :: xs) 0 = x := rfl
theorem take_snoc {xs : List α} {k : Nat} (h : k < xs.length) : xs.take (k + 1) = xs.take k ++ [gt xs k] := by
  unfold gt; rw [List.take_succ_eq_append_getElem h, List.getElem?_eq_getElem h]; rfl
theorem gt_set {xs : List α} {k : Nat} (h : k < xs.length) (y : α) (j : Nat) : gt (xs.set k y) j = if j = k then y else gt xs j := by
  unfold gt
  rw [List.getElem?_set]
  by_cases hj : k = j
  · subst hj; simp [h]
  · rw [if_neg hj, if_neg (Ne.symm hj)]
/-- The cells of a list of elements: sz an element, as enc says. -/
def cE (sz : Nat) (enc : α → Nat → Value) (xs : List α) (j : Nat) : Value := enc (gt xs (j / sz)) (j % sz)
theorem cE_at {sz : Nat} (enc : α → Nat → Value) (xs : List α) {i : Nat} (k : Nat) (hi : i < sz) : cE sz enc xs (k * sz + i) = enc (gt xs k) i := by
  unfold cE
  rw [Nat.mul_comm, Nat.mul_add_div (by omega), Nat.div_eq_of_lt hi, Nat.add_zero, Nat.mul_add_mod, Nat.mod_eq_of_lt hi]
theorem cE_one {sz : Nat} (enc : α → Nat → Value) (h : ∀ v i, (enc v i).oneCell' = true) (xs : List α) (j : Nat) : (cE sz enc xs j).oneCell' = true := h _ _
/-- A slice of elements. -/
def RdE (sz : Nat) (enc : α → Nat → Value) (w : World) (B : Nat) (A : Option Addr) (xs : List α) : Prop := Rd w B sz A xs.length (cE sz enc xs)
/-- A row of the call's own that holds a list of elements. -/
def OwnE (sz : Nat) (enc : α → Nat → Value) (e : TypeId) (w : World) (base : Nat) (A : Option Addr) (cap : Nat) (xs : List α) : Prop := Own w base e sz A xs.length cap (cE sz enc xs)
variable {sz : Nat} {enc : α → Nat → Value} {e : TypeId} {w w' : World} {B base cap : Nat} {A : Option Addr} {xs ys : List α}
theorem RdE.at_ (h : RdE sz enc w B A xs) (hn : 0 < xs.length) : ∃ b off, A = some ⟨b, off, none⟩ ∧ b < B ∧ ∀ k i, k < xs.length → i < sz → w.cell? ⟨b, off + (k * sz + i), none⟩ = some (enc (gt xs k) i) := by
  obtain ⟨b, off, e, hb, hc⟩ := h hn
  refine ⟨b, off, e, hb, fun k i hk hi => ?_⟩
  rw [hc _ (by have : k * sz + sz ≤ xs.length * sz := by rw [← Nat.succ_mul]; exact Nat.mul_le_mul_right _ hk
               omega), cE_at enc xs k hi]
theorem RdE.below (h : RdE sz enc w B A xs) (hb : Below B w w') : RdE sz enc w' B A xs := Rd.below h hb
theorem RdE.more {B' : Nat} (h : RdE sz enc w B A xs) (hB : B ≤ B') : RdE sz enc w B' A xs := Rd.more h hB
theorem RdE.nil : RdE sz enc w B A ([] : List α) := fun h => absurd h (by simp)
theorem RdE.alloc (h : RdE sz enc w B A xs) (hB : B ≤ w.heap.size) (o : Obj) : RdE sz enc (w.alloc o) B A xs := h.below ((Below.refl _ _).alloc hB o)
theorem RdE.drewN (h : RdE sz enc w B A xs) (n : Nat) : RdE sz enc (w.drewN n) B A xs := h
theorem RdE.take (h : RdE sz enc w B A xs) (k : Nat) : RdE sz enc w B A (xs.take k) := fun hp => by
  have hk : (xs.take k).length = min k xs.length := by simp
  obtain ⟨b, off, e, hb, hc⟩ := h (by omega)
  refine ⟨b, off, e, hb, fun j hj => ?_⟩
  have hz : 0 < sz := by
    rcases Nat.eq_zero_or_pos sz with h0 | h0
    · subst h0; simp at hj
    · exact h0
  have hj2 : j / sz < (xs.take k).length := (Nat.div_lt_iff_lt_mul hz).2 hj
  rw [hc j (Nat.lt_of_lt_of_le hj (Nat.mul_le_mul_right _ (by omega)))]
  unfold cE
  rw [gt_take (by omega)]
theorem RdE.drop {b off k : Nat} (h : RdE sz enc w B (some ⟨b, off, none⟩) xs) : RdE sz enc w B (some ⟨b, off + k * sz, none⟩) (xs.drop k) := fun hp => by
  have hk : (xs.drop k).length = xs.length - k := by simp
  obtain ⟨b', off', e, hb, hc⟩ := h (by omega)
  injection e with e; injection e with e1 e2 e3; subst e1; subst e2
  refine ⟨b, off + k * sz, rfl, hb, fun j hj => ?_⟩
  have hz : 0 < sz := by
    rcases Nat.eq_zero_or_pos sz with h0 | h0
    · subst h0; simp at hj
    · exact h0
  have hj2 : k * sz + j < xs.length * sz := by
    rw [hk] at hj
    have : (xs.length - k) * sz = xs.length * sz - k * sz := Nat.sub_mul _ _ _
    omega
  rw [Nat.add_assoc, hc _ hj2]
  unfold cE
  rw [gt_drop, Nat.mul_comm k sz, Nat.mul_add_div hz, Nat.mul_add_mod]
theorem OwnE.rd (h : OwnE sz enc e w base A cap xs) : RdE sz enc w w.heap.size A xs := Own.rd h
theorem OwnE.cat (hz : 0 < sz) (h : Own w base e sz A (xs.length + ys.length) cap (fun j => if j < xs.length * sz then cE sz enc xs j else cE sz enc ys (j - xs.length * sz))) : OwnE sz enc e w base A cap (xs ++ ys) := by
  unfold OwnE
  rw [List.length_append]
  refine Own.congr h fun j _ => ?_
  unfold cE
  rw [gt_append]
  by_cases hj : j < xs.length * sz
  · rw [if_pos hj, if_pos ((Nat.div_lt_iff_lt_mul hz).2 hj)]
  · have hge : xs.length ≤ j / sz := (Nat.le_div_iff_mul_le hz).2 (by omega)
    rw [if_neg hj, if_neg (by omega)]
    obtain ⟨d, rfl⟩ : ∃ d, j = xs.length * sz + d := ⟨j - xs.length * sz, by omega⟩
    rw [Nat.add_sub_cancel_left, Nat.mul_comm, Nat.mul_add_div hz, Nat.mul_add_mod, Nat.add_sub_cancel_left]
theorem OwnE.snoc (hz : 0 < sz) {y : α} (h : Own w base e sz A (xs.length + 1) cap (fun j => if j < xs.length * sz then cE sz enc xs j else enc y (j - xs.length * sz))) : OwnE sz enc e w base A cap (xs ++ [y]) :=
  OwnE.cat hz (ys := [y]) (Own.congr h fun j hj => by
    by_cases h1 : j < xs.length * sz
    · rw [if_pos h1, if_pos h1]
    · have h2 : [y].length = 1 := rfl
      have h3 : j - xs.length * sz < sz := by
        rw [Nat.add_mul, h2, Nat.one_mul] at hj; omega
      rw [if_neg h1, if_neg h1]
      unfold cE
      rw [Nat.div_eq_of_lt h3, Nat.mod_eq_of_lt h3]
      rfl)
end
/-- A table of one element in a new block. -/
theorem rd_elem {α : Type} {sz : Nat} {enc : α → Nat → Value} (w : World) (t : TypeId) (cs : Array Value) (y : α) (hcs : ∀ j, j < sz → cs[j]? = some (enc y j)) : Rd (w.alloc (.cells cs t)) (w.heap.size + 1) sz (some ⟨w.heap.size, 0, none⟩) 1 (enc y) := fun _ =>
  ⟨w.heap.size, 0, rfl, by omega, fun j hj => by
    rw [World.cell?_alloc_at _ _ _ _ rfl, Nat.zero_add, hcs j (by omega)]⟩
section
variable {α : Type} [Inhabited α] {sz : Nat} {enc : α → Nat → Value} {e : TypeId} {w : World} {base cap : Nat} {A : Option Addr} {xs : List α}
/-- What was appended onto an empty row. -/
theorem OwnE.first {m : Nat} (h : Own w base e sz A (0 + m) cap (fun j => if j < 0 * sz then cE sz enc ([] : List α) j else cE sz enc xs (j - 0 * sz))) (hm : xs.length = m) : OwnE sz enc e w base A cap xs := by
  subst hm
  unfold OwnE
  rw [Nat.zero_add] at h
  exact Own.congr h fun j _ => by simp
/-- What was appended onto a row that holds xs, both known by their lengths. -/
theorem OwnE.join {ys : List α} {n m : Nat} (hz : 0 < sz) (hn : xs.length = n) (hm : ys.length = m) (h : Own w base e sz A (n + m) cap (fun j => if j < n * sz then cE sz enc xs j else cE sz enc ys (j - n * sz))) : OwnE sz enc e w base A cap (xs ++ ys) := by
  subst hn; subst hm; exact OwnE.cat hz h
theorem OwnE.push {y : α} {n : Nat} (hz : 0 < sz) (hn : xs.length = n) (h : Own w base e sz A (n + 1) cap (fun j => if j < n * sz then cE sz enc xs j else enc y (j - n * sz))) : OwnE sz enc e w base A cap (xs ++ [y]) := by
  subst hn; exact OwnE.snoc hz h
theorem OwnE.own {n : Nat} (h : OwnE sz enc e w base A cap xs) (hn : xs.length = n) : Own w base e sz A n cap (cE sz enc xs) := by subst hn; exact h
theorem RdE.len {B n : Nat} (h : RdE sz enc w B A xs) (hn : xs.length = n) : Rd w B sz A n (cE sz enc xs) := by subst hn; exact h
/-- One element's cells turned. -/
theorem OwnE.of_set {k : Nat} (hk : k < xs.length) {y : α} {f : Nat → Value} (h : Own w base e sz A xs.length cap f) (hf : ∀ j, j < xs.length * sz → f j = if j / sz = k then enc y (j % sz) else cE sz enc xs j) : OwnE sz enc e w base A cap (xs.set k y) := by
  unfold OwnE
  rw [List.length_set]
  refine Own.congr h fun j hj => ?_
  rw [hf j hj]
  unfold cE
  rw [gt_set hk]
  split <;> rfl
end
/-- Are two elements the same? -/
def eqEl {α : Type} [DecidableEq α] (x y : α) : Bool := decide (x = y)
theorem eqEl_true {α : Type} [DecidableEq α] {x y : α} (h : x = y) : eqEl x y = true := decide_eq_true h
theorem eqEl_false {α : Type} [DecidableEq α] {x y : α} (h : x ≠ y) : eqEl x y = false := decide_eq_false h
theorem below_drew1 {B : Nat} (w : World) : Below B w w.drew := (Below.refl _ _).drew
theorem cE_take_step {α : Type} [Inhabited α] {sz : Nat} (enc : α → Nat → Value) {xs : List α} {k : Nat} {j : Nat} : cE sz enc (xs.take (k + 1)) j = if j / sz = k then enc (gt xs k) (j % sz) else cE sz enc (xs.take k) j := by
  unfold cE
  by_cases h : j / sz = k
  · rw [if_pos h, h, gt_take (by omega)]
  · rw [if_neg h]
    congr 1
    by_cases h2 : j / sz < k
    · rw [gt_take h2, gt_take (by omega)]
    · unfold gt
      rw [List.getElem?_take, List.getElem?_take, if_neg (by omega), if_neg h2]
theorem set_cells_2 {α : Type} {enc : α → Nat → Value} {x : α} {f : Nat → Value} (k j : Nat) (a b : Value) (ha : enc x 0 = a) (hb : enc x 1 = b) :
    (if j = k * 2 + 1 then b else if j = k * 2 then a else f j) = if j / 2 = k then enc x (j % 2) else f j := by
  by_cases h1 : j = k * 2 + 1
  · rw [if_pos h1, if_pos (by omega), show j % 2 = 1 by omega, hb]
  · by_cases h0 : j = k * 2
    · rw [if_neg h1, if_pos h0, if_pos (by omega), show j % 2 = 0 by omega, ha]
    · rw [if_neg h1, if_neg h0, if_neg (by omega)]
theorem set_cells_3 {α : Type} {enc : α → Nat → Value} {x : α} {f : Nat → Value} (k j : Nat) (a b c : Value) (ha : enc x 0 = a) (hb : enc x 1 = b) (hc : enc x 2 = c) :
    (if j = k * 3 + 2 then c else if j = k * 3 + 1 then b else if j = k * 3 then a else f j) = if j / 3 = k then enc x (j % 3) else f j := by
  by_cases h2 : j = k * 3 + 2
  · rw [if_pos h2, if_pos (by omega), show j % 3 = 2 by omega, hc]
  · by_cases h1 : j = k * 3 + 1
    · rw [if_neg h2, if_pos h1, if_pos (by omega), show j % 3 = 1 by omega, hb]
    · by_cases h0 : j = k * 3
      · rw [if_neg h2, if_neg h1, if_pos h0, if_pos (by omega), show j % 3 = 0 by omega, ha]
      · rw [if_neg h2, if_neg h1, if_neg h0, if_neg (by omega)]
theorem set_cells_4 {α : Type} {enc : α → Nat → Value} {x : α} {f : Nat → Value} (k j : Nat) (a b c d : Value) (ha : enc x 0 = a) (hb : enc x 1 = b) (hc : enc x 2 = c) (hd : enc x 3 = d) :
    (if j = k * 4 + 3 then d else if j = k * 4 + 2 then c else if j = k * 4 + 1 then b else if j = k * 4 then a else f j) = if j / 4 = k then enc x (j % 4) else f j := by
  by_cases h3 : j = k * 4 + 3
  · rw [if_pos h3, if_pos (by omega), show j % 4 = 3 by omega, hd]
  · by_cases h2 : j = k * 4 + 2
    · rw [if_neg h3, if_pos h2, if_pos (by omega), show j % 4 = 2 by omega, hc]
    · by_cases h1 : j = k * 4 + 1
      · rw [if_neg h3, if_neg h2, if_pos h1, if_pos (by omega), show j % 4 = 1 by omega, hb]
      · by_cases h0 : j = k * 4
        · rw [if_neg h3, if_neg h2, if_neg h1, if_pos h0, if_pos (by omega), show j % 4 = 0 by omega, ha]
        · rw [if_neg h3, if_neg h2, if_neg h1, if_neg h0, if_neg (by omega)]
theorem mark_cells_2 {m f : Nat → Value} (j x : Nat) (a b : Value) (ha : m (j * 2) = a) (hb : m (j * 2 + 1) = b) :
    (if x = j * 2 + 1 then b else if x = j * 2 then a else if x < j * 2 then m x else f x) = if x < (j + 1) * 2 then m x else f x := by
  by_cases h1 : x = j * 2 + 1
  · rw [if_pos h1, if_pos (by omega), h1, hb]
  · by_cases h0 : x = j * 2
    · rw [if_neg h1, if_pos h0, if_pos (by omega), h0, ha]
    · rw [if_neg h1, if_neg h0]
      by_cases hx : x < j * 2
      · rw [if_pos hx, if_pos (by omega)]
      · rw [if_neg hx, if_neg (by omega)]
theorem mark_cells_3 {m f : Nat → Value} (j x : Nat) (a b c : Value) (ha : m (j * 3) = a) (hb : m (j * 3 + 1) = b) (hc : m (j * 3 + 2) = c) :
    (if x = j * 3 + 2 then c else if x = j * 3 + 1 then b else if x = j * 3 then a else if x < j * 3 then m x else f x) = if x < (j + 1) * 3 then m x else f x := by
  by_cases h2 : x = j * 3 + 2
  · rw [if_pos h2, if_pos (by omega), h2, hc]
  · by_cases h1 : x = j * 3 + 1
    · rw [if_neg h2, if_pos h1, if_pos (by omega), h1, hb]
    · by_cases h0 : x = j * 3
      · rw [if_neg h2, if_neg h1, if_pos h0, if_pos (by omega), h0, ha]
      · rw [if_neg h2, if_neg h1, if_neg h0]
        by_cases hx : x < j * 3
        · rw [if_pos hx, if_pos (by omega)]
        · rw [if_neg hx, if_neg (by omega)]
theorem mark_cells_4 {m f : Nat → Value} (j x : Nat) (a b c d : Value) (ha : m (j * 4) = a) (hb : m (j * 4 + 1) = b) (hc : m (j * 4 + 2) = c) (hd : m (j * 4 + 3) = d) :
    (if x = j * 4 + 3 then d else if x = j * 4 + 2 then c else if x = j * 4 + 1 then b else if x = j * 4 then a else if x < j * 4 then m x else f x) = if x < (j + 1) * 4 then m x else f x := by
  by_cases h3 : x = j * 4 + 3
  · rw [if_pos h3, if_pos (by omega), h3, hd]
  · by_cases h2 : x = j * 4 + 2
    · rw [if_neg h3, if_pos h2, if_pos (by omega), h2, hc]
    · by_cases h1 : x = j * 4 + 1
      · rw [if_neg h3, if_neg h2, if_pos h1, if_pos (by omega), h1, hb]
      · by_cases h0 : x = j * 4
        · rw [if_neg h3, if_neg h2, if_neg h1, if_pos h0, if_pos (by omega), h0, ha]
        · rw [if_neg h3, if_neg h2, if_neg h1, if_neg h0]
          by_cases hx : x < j * 4
          · rw [if_pos hx, if_pos (by omega)]
          · rw [if_neg hx, if_neg (by omega)]
/-- What is left of a size when n are taken; -1 if there are not so many. -/
def szL (left : Int) (n : Nat) : Int := if (n : Int) ≤ left then left - n else -1
theorem szL_yes {left : Int} {n : Nat} (h : (n : Int) ≤ left) : szL left n = left - n := if_pos h
theorem szL_no {left : Int} {n : Nat} (h : left - (n : Int) < 0) : szL left n = -1 := if_neg (by omega)
/-- A made row holds the elements' zeros. -/
theorem Own.made {α : Type} [Inhabited α] (w : World) (e : TypeId) (sz n : Nat) (z : Array Value) (enc : α → Nat → Value) (hn : n ≤ maxLen) (hzs : z.size = sz) (hz : ∀ i, i < sz → z[i]! = enc default i) :
    Own (w.alloc (.cells (madeCells z (n * sz)) e)) w.heap.size e sz (some ⟨w.heap.size, 0, none⟩) n n (cE sz enc (([] : List α))) := by
  refine Own.lit w e sz n _ _ hn ?_
  apply List.ext_getElem
  · simp [madeCells]
  · intro j h1 h2
    simp only [List.length_map, List.length_range] at h2
    have hp : 0 < sz := by
      rcases Nat.eq_zero_or_pos sz with h0 | h0
      · subst h0; simp at h2
      · exact h0
    simp only [madeCells, Array.toList_map, List.getElem_map, Array.toList_range, List.getElem_range]
    rw [hzs, hz _ (Nat.mod_lt _ hp)]
    rfl
/-- Are two lists the same? -/
def sameB {α : Type} [DecidableEq α] (xs ys : List α) : Bool := decide (xs = ys)
theorem sameB_self {α : Type} [DecidableEq α] (xs : List α) : sameB xs xs = true := decide_eq_true rfl
theorem sameB_true {α : Type} [Inhabited α] [DecidableEq α] {xs ys : List α} (hl : xs.length = ys.length) (h : ∀ j, j < xs.length → gt xs j = gt ys j) : sameB xs ys = true := decide_eq_true (gt_ext hl h)
theorem sameB_len {α : Type} [DecidableEq α] {xs ys : List α} (hl : xs.length ≠ ys.length) : sameB xs ys = false := decide_eq_false fun e => hl (by rw [e])
theorem sameB_at {α : Type} [Inhabited α] [DecidableEq α] {xs ys : List α} {j : Nat} (h : gt xs j ≠ gt ys j) : sameB xs ys = false := decide_eq_false fun e => h (by rw [e])
end Go.Proofs.Ytfnmlffpnmmcdaa
