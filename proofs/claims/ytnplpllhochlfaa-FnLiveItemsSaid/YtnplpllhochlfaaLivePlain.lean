/- Plain laws of live items. -/
import Derived.Test.YtnplpllhochlfaaFeedPlain
import Derived.Test.YtnplpllhochlfaaTombPlain4
namespace Go.Proofs.Ytnplpllhochlfaa
/-- The live ones of the first k. -/
def liveTo (fs : List ElItem) (ts : List ElTomb) (now : Int) (k : Nat) : List ElItem := (fs.take k).filter (fun i => !buriedB ts i.1 now)
theorem liveTo_zero (fs : List ElItem) (ts : List ElTomb) (now : Int) : liveTo fs ts now 0 = [] := rfl
theorem liveTo_len (fs : List ElItem) (ts : List ElTomb) (now : Int) (k : Nat) : (liveTo fs ts now k).length ≤ k := by
  unfold liveTo
  have := List.length_filter_le (fun i : ElItem => !buriedB ts i.1 now) (fs.take k)
  simp only [List.length_take] at this
  omega
theorem liveTo_is {fs : List ElItem} {ts : List ElTomb} {now : Int} {k : Nat} (hk : k < fs.length) (h : buriedB ts (gt fs k).1 now = true) : liveTo fs ts now (k + 1) = liveTo fs ts now k := by
  unfold liveTo; rw [take_snoc hk, List.filter_append]; simp [h]
theorem liveTo_not {fs : List ElItem} {ts : List ElTomb} {now : Int} {k : Nat} (hk : k < fs.length) (h : buriedB ts (gt fs k).1 now = false) : liveTo fs ts now (k + 1) = liveTo fs ts now k ++ [gt fs k] := by
  unfold liveTo; rw [take_snoc hk, List.filter_append]; simp [h]
def liveOf (fs : List ElItem) (ts : List ElTomb) (now : Int) : List ElItem := if (fdB fs && tmB ts) = true then liveTo fs ts now fs.length else []
theorem liveOf_yes {fs : List ElItem} {ts : List ElTomb} {now : Int} (h1 : fdB fs = true) (h2 : tmB ts = true) : liveOf fs ts now = liveTo fs ts now fs.length := if_pos (by rw [h1, h2]; rfl)
theorem liveOf_bad1 {fs : List ElItem} {ts : List ElTomb} {now : Int} (h1 : fdB fs = false) : liveOf fs ts now = [] := if_neg (by rw [h1]; simp)
theorem liveOf_bad2 {fs : List ElItem} {ts : List ElTomb} {now : Int} (h1 : tmB ts = false) : liveOf fs ts now = [] := if_neg (by rw [h1]; simp)
theorem liveOf_len (fs : List ElItem) (ts : List ElTomb) (now : Int) : (liveOf fs ts now).length ≤ 8 := by
  unfold liveOf
  split
  · next h =>
    rw [Bool.and_eq_true] at h
    have := fd_len h.1
    have := liveTo_len fs ts now fs.length
    omega
  · simp
theorem liveTo_mem {fs : List ElItem} {ts : List ElTomb} {now : Int} {k : Nat} {x : ElItem} (h : x ∈ liveTo fs ts now k) : x ∈ fs := List.mem_of_mem_take (List.mem_filter.1 h).1
theorem liveOf_mem {fs : List ElItem} {ts : List ElTomb} {now : Int} {x : ElItem} (h : x ∈ liveOf fs ts now) : x ∈ fs := by
  unfold liveOf at h
  split at h
  · exact liveTo_mem h
  · cases h
/-- A part of a valid feed, in order, is valid. -/
theorem fd_sub {fs gs : List ElItem} (h : fdB fs = true) (hs : gs.Sublist fs) : fdB gs = true := by
  have hd : fs.Pairwise (fun a b => a.1 ≠ b.1) := List.pairwise_iff_getElem.2 fun i j hi hj hij => by
    rw [← gt_get hi, ← gt_get hj]; exact ((Vd.of h).2 j hj).2 i hij
  have hd2 := hd.sublist hs
  have hl := fd_len h
  have hl2 := hs.length_le
  refine vdB_true ⟨by omega, fun k hk => ⟨?_, fun j hj => ?_⟩⟩
  · obtain ⟨i, hi, e⟩ := mem_gt (hs.subset (gt_mem hk))
    rw [← e]; exact fd_iv h hi
  · have := List.pairwise_iff_getElem.1 hd2 j k (by omega) hk hj
    rw [← gt_get, ← gt_get] at this; exact this
theorem liveOf_fd {fs : List ElItem} {ts : List ElTomb} {now : Int} (h1 : fdB fs = true) : fdB (liveOf fs ts now) = true := by
  unfold liveOf
  split
  · exact fd_sub h1 ((List.filter_sublist).trans (List.take_sublist _ _))
  · exact fd_sub h1 (List.nil_sublist _)
/-- How many of the first k are buried. -/
def deadTo (fs : List ElItem) (ts : List ElTomb) (now : Int) (k : Nat) : Nat := ((fs.take k).filter (fun i => buriedB ts i.1 now)).length
theorem deadTo_zero (fs : List ElItem) (ts : List ElTomb) (now : Int) : deadTo fs ts now 0 = 0 := rfl
theorem deadTo_is {fs : List ElItem} {ts : List ElTomb} {now : Int} {k : Nat} (hk : k < fs.length) (h : buriedB ts (gt fs k).1 now = true) : deadTo fs ts now (k + 1) = deadTo fs ts now k + 1 := by
  unfold deadTo; rw [take_snoc hk, List.filter_append]; simp [h]
theorem deadTo_not {fs : List ElItem} {ts : List ElTomb} {now : Int} {k : Nat} (hk : k < fs.length) (h : buriedB ts (gt fs k).1 now = false) : deadTo fs ts now (k + 1) = deadTo fs ts now k := by
  unfold deadTo; rw [take_snoc hk, List.filter_append]; simp [h]
theorem live_dead (fs : List ElItem) (ts : List ElTomb) (now : Int) {k : Nat} (hk : k ≤ fs.length) : (liveTo fs ts now k).length + deadTo fs ts now k = k := by
  induction k with
  | zero => rfl
  | succ k ih =>
    have := ih (by omega)
    cases hq : buriedB ts (gt fs k).1 now
    · rw [liveTo_not (by omega) hq, deadTo_not (by omega) hq, List.length_append, List.length_singleton]; omega
    · rw [liveTo_is (by omega) hq, deadTo_is (by omega) hq]; omega
theorem liveTo_later (fs : List ElItem) (ts : List ElTomb) (now : Int) (k : Nat) : (liveTo fs ts now k).length ≤ (liveTo fs ts (now + 1) k).length := by
  unfold liveTo
  rw [← List.countP_eq_length_filter, ← List.countP_eq_length_filter]
  refine List.countP_mono_left fun x _ hx => ?_
  cases hq : buriedB ts x.1 (now + 1)
  · rfl
  · rw [buriedB_before hq] at hx; cases hx
theorem liveOf_later (fs : List ElItem) (ts : List ElTomb) (now : Int) : (liveOf fs ts now).length ≤ (liveOf fs ts (now + 1)).length := by
  cases h1 : fdB fs
  · rw [liveOf_bad1 h1]; simp
  · cases h2 : tmB ts
    · rw [liveOf_bad2 h2]; simp
    · rw [liveOf_yes h1 h2, liveOf_yes h1 h2]; exact liveTo_later _ _ _ _
end Go.Proofs.Ytnplpllhochlfaa
