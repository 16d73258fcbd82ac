import Derived.Test.YtnaiopbealnpmaaOwn
namespace Go.Proofs.Ytnaiopbealnpmaa
open Go.RowKit PP
theorem RdI.take {w : World} {B : Nat} {A : Option Addr} {xs : List Int} (h : RdI w B A xs) (k : Nat) : RdI w B A (xs.take k) := fun hp => by
  have hk : (xs.take k).length = min k xs.length := by simp
  obtain ⟨b, off, e1, e2, e3⟩ := h.at_ (by omega)
  refine ⟨b, off, e1, e2, fun j hj => ?_⟩
  rw [e3 j (by omega)]
  have : PP.at_ (xs.take k) j = PP.at_ xs j := by unfold PP.at_; rw [List.getElem?_take, if_pos (by omega)]
  show _ = some (Value.int .i64 (PP.at_ (xs.take k) j))
  rw [this]
theorem info_int : (Try.prog.info? 3).map (fun i => (i.zero, i.size, i.bytes)) = some (some (.int .i64 0), 1, 8) := by kernel_rfl
/-- The cells of a list of integers. -/
def cI (xs : List Int) (j : Nat) : Value := .int .i64 (at_ xs j)
theorem toIntS_any (A : Option Addr) (cap B : Nat) (xs : List Int) (w : World) (h : RdI w B A xs) (hB : B ≤ w.heap.size) (hl : xs.length ≤ 1048576) :
    Calls Try.prog 14 #[.slice A xs.length cap] w fun e w' => e = .returned (.slice (some ⟨w.heap.size, 0, none⟩) xs.length xs.length) ∧ w.alloc (.cells (rowC (cI xs) xs.length) 3) = w' := by
  have hmk := mk_run (P := Try.prog) 22 3 _ _ _ Try.underlying22 info_int xs.length (by omega) (by omega)
  simp only [Nat.mul_one] at hmk
  go_enter Try.func14, Try.ntmps14
  go_wp2
  go_loopw [4] (fun i wr => ∃ k : Nat, k ≤ xs.length ∧ i = .int .i64 k ∧ wr = w.alloc (.cells (cpC #[.int .i64 0] (cI xs) xs.length k) 3)) (fun i _ => xs.length - (intOf i).toNat)
  case atStart => exact ⟨0, Nat.zero_le _, rfl, by rw [cpC_zero]⟩
  case round =>
    obtain ⟨k, hk, rfl, rfl⟩ := hrel
    by_cases hlt : k < xs.length
    · obtain ⟨b, off, rfl, hb, hc⟩ := h.at_ (by omega)
      have hck := hc k hlt
      have HC := Lib.hid hc; clear hc
      have hck' : (w.alloc (.cells (cpC #[.int .i64 0] (cI xs) xs.length k) 3)).cell? ⟨b, off + k, none⟩ = some (.int .i64 (at_ xs k)) := by
        rw [World.cell?_alloc_past _ _ _ (by omega)]; exact hck
      have hcg := cpC_get #[.int .i64 0] (cI xs) (k := k) hlt
      simp only [Nat.lt_irrefl, if_false] at hcg
      go_wp2
      go_roundw
      case rel => exact ⟨k + 1, by omega, by go_num, by rw [← cpC_set _ _ _ _ hlt]; rfl⟩
      case measure => simp [intOf]; omega
    · obtain rfl : k = xs.length := by omega
      go_wp2
      go_ret
      exact ⟨rfl, by rw [cpC_all]⟩
theorem eqIntS_any (A A' : Option Addr) (cap cap' B : Nat) (xs ys : List Int) (w : World) (h : RdI w B A xs) (h' : RdI w B A' ys) (hl : xs.length ≤ 140737488351232) (hl' : ys.length ≤ 140737488351232) :
    Calls Try.prog 16 #[.slice A xs.length cap, .slice A' ys.length cap'] w fun e w' => e = .returned (.bool (eqB xs ys)) ∧ ∃ n, w' = w.drewN n := by
  by_cases hlen : xs.length = ys.length
  · have HL := Lib.hid hlen
    have hd : ((xs.length : Int) != (ys.length : Int)) = false := by rw [hlen]; simp
    have hle : xs.length ≤ ys.length := by omega
    clear hlen
    go_enter Try.func16, Try.ntmps16
    go_wp2
    go_loopw [5] (fun i wr => ∃ k n : Nat, k ≤ xs.length ∧ (∀ j, j < k → at_ xs j = at_ ys j) ∧ i = .int .i64 k ∧ wr = w.drewN n) (fun i _ => xs.length - (intOf i).toNat)
    case atStart => exact ⟨0, 0, Nat.zero_le _, fun j hj => absurd hj (by omega), rfl, rfl⟩
    case round =>
      obtain ⟨k, n, hk, hok, rfl, rfl⟩ := hrel
      have HO := Lib.hid hok; clear hok
      by_cases hlt : k < xs.length
      · obtain ⟨b, off, rfl, hb, hc⟩ := h.at_ (by omega)
        obtain ⟨b', off', rfl, hb', hc'⟩ := h'.at_ (by omega)
        have hck := hc k hlt
        have hck' := hc' k (by omega)
        have hlt' : k < ys.length := by omega
        clear hc hc'
        by_cases hne : at_ xs k = at_ ys k
        · have hn : (at_ xs k != at_ ys k) = false := by simp [hne]
          have HN := Lib.hid hne; clear hne
          go_wp2
          go_quiet (fail)
          go_wp2
          go_roundw
          case rel => exact ⟨k + 1, _, by omega, fun j hj => by
            rcases Nat.lt_succ_iff_lt_or_eq.1 hj with h1 | rfl
            · exact HO.out j h1
            · exact HN.out, by go_num, rfl⟩
          case measure => simp [intOf]; omega
        · have hn : (at_ xs k != at_ ys k) = true := by simp [hne]
          have HN := Lib.hid hne; clear hne
          go_wp2
          go_quiet (fail)
          go_wp2
          go_ret
          exact ⟨ret_bool (eqB_at HN.out).symm, _, World.drewN_drewN _ _ _⟩
      · obtain rfl : k = xs.length := by omega
        go_wp2
        go_ret
        exact ⟨ret_bool (eqB_true HL.out HO.out).symm, _, rfl⟩
  · have hd : ((xs.length : Int) != (ys.length : Int)) = true := by simp; omega
    go_enter Try.func16, Try.ntmps16
    go_wp2
    go_ret
    exact ⟨ret_bool (eqB_len hlen).symm, 0, rfl⟩
theorem sameInts_any (A A' : Option Addr) (cap cap' B : Nat) (xs ys : List Int) (w : World) (h : RdI w B A xs) (h' : RdI w B A' ys) (hl : xs.length ≤ 140737488351232) (hl' : ys.length ≤ 140737488351232) :
    Calls Try.prog 32 #[.slice A xs.length cap, .slice A' ys.length cap'] w fun e w' => e = .returned (.bool (eqB xs ys)) ∧ ∃ n, w' = w.drewN n := by
  by_cases hlen : xs.length = ys.length
  · have HL := Lib.hid hlen
    have hd : ((xs.length : Int) != (ys.length : Int)) = false := by rw [hlen]; simp
    have hle : xs.length ≤ ys.length := by omega
    clear hlen
    go_enter Try.func32, Try.ntmps32
    go_wp2
    go_loopw [5] (fun i wr => ∃ k n : Nat, k ≤ xs.length ∧ (∀ j, j < k → at_ xs j = at_ ys j) ∧ i = .int .i64 k ∧ wr = w.drewN n) (fun i _ => xs.length - (intOf i).toNat)
    case atStart => exact ⟨0, 0, Nat.zero_le _, fun j hj => absurd hj (by omega), rfl, rfl⟩
    case round =>
      obtain ⟨k, n, hk, hok, rfl, rfl⟩ := hrel
      have HO := Lib.hid hok; clear hok
      by_cases hlt : k < xs.length
      · obtain ⟨b, off, rfl, hb, hc⟩ := h.at_ (by omega)
        obtain ⟨b', off', rfl, hb', hc'⟩ := h'.at_ (by omega)
        have hck := hc k hlt
        have hck' := hc' k (by omega)
        have hlt' : k < ys.length := by omega
        clear hc hc'
        by_cases hne : at_ xs k = at_ ys k
        · have hn : (at_ xs k != at_ ys k) = false := by simp [hne]
          have HN := Lib.hid hne; clear hne
          go_wp2
          go_quiet (fail)
          go_wp2
          go_roundw
          case rel => exact ⟨k + 1, _, by omega, fun j hj => by
            rcases Nat.lt_succ_iff_lt_or_eq.1 hj with h1 | rfl
            · exact HO.out j h1
            · exact HN.out, by go_num, rfl⟩
          case measure => simp [intOf]; omega
        · have hn : (at_ xs k != at_ ys k) = true := by simp [hne]
          have HN := Lib.hid hne; clear hne
          go_wp2
          go_quiet (fail)
          go_wp2
          go_ret
          exact ⟨ret_bool (eqB_at HN.out).symm, _, World.drewN_drewN _ _ _⟩
      · obtain rfl : k = xs.length := by omega
        go_wp2
        go_ret
        exact ⟨ret_bool (eqB_true HL.out HO.out).symm, _, rfl⟩
  · have hd : ((xs.length : Int) != (ys.length : Int)) = true := by simp; omega
    go_enter Try.func32, Try.ntmps32
    go_wp2
    go_ret
    exact ⟨ret_bool (eqB_len hlen).symm, 0, rfl⟩
/-- A copy in new memory, known by what it reads as. -/
theorem toIntS_new (A : Option Addr) (cap B : Nat) (xs : List Int) (w : World) (h : RdI w B A xs) (hB : B ≤ w.heap.size) (hl : xs.length ≤ 1048576) :
    Calls Try.prog 14 #[.slice A xs.length cap] w fun e w' => ∃ A' : Option Addr, e = .returned (.slice A' xs.length xs.length) ∧ RdI w' w'.heap.size A' xs ∧ Below w.heap.size w w' :=
  (toIntS_any A cap B xs w h hB hl).mono fun e w' ⟨he, hw⟩ => ⟨_, he, fun _ => ⟨w.heap.size, 0, rfl, by rw [← hw]; simp, fun j hj => by
    rw [← hw, World.cell?_alloc_at _ _ _ _ rfl, Nat.zero_add, rowC_get _ (by omega)]; rfl⟩, by rw [← hw]; exact (Below.refl _ _).alloc (Nat.le_refl _) _⟩
/-- A row of the call's own that holds a list of integers. -/
def OwnI (w : World) (base : Nat) (A : Option Addr) (cap : Nat) (xs : List Int) : Prop := Own w base 3 1 A xs.length cap (cI xs)
theorem OwnI.rd {w : World} {base : Nat} {A : Option Addr} {cap : Nat} {xs : List Int} (h : OwnI w base A cap xs) : RdI w w.heap.size A xs := Own.rd h
theorem at_append (xs ys : List Int) (j : Nat) : at_ (xs ++ ys) j = if j < xs.length then at_ xs j else at_ ys (j - xs.length) := by
  unfold at_
  rw [List.getElem?_append]
  split <;> rfl
theorem OwnI.cat {w : World} {base : Nat} {A : Option Addr} {cap : Nat} {xs ys : List Int} (h : Own w base 3 1 A (xs.length + ys.length) cap (fun j => if j < xs.length * 1 then cI xs j else cI ys (j - xs.length * 1))) : OwnI w base A cap (xs ++ ys) := by
  unfold OwnI
  rw [List.length_append]
  refine Own.congr h fun j _ => ?_
  simp only [Nat.mul_one, cI, at_append]
  split <;> rfl
theorem OwnI.snoc {w : World} {base : Nat} {A : Option Addr} {cap : Nat} {xs : List Int} {n : Int} (h : Own w base 3 1 A (xs.length + 1) cap (fun j => if j < xs.length * 1 then cI xs j else .int .i64 n)) : OwnI w base A cap (xs ++ [n]) :=
  OwnI.cat (ys := [n]) (Own.congr h fun j hj => by
    have h1 : [n].length = 1 := rfl
    simp only [Nat.mul_one] at hj ⊢
    split
    · rfl
    · rw [show j - xs.length = 0 by omega]; rfl)
/-- A copy in new memory, the call's own. -/
theorem toIntS_own (A : Option Addr) (cap B : Nat) (xs : List Int) (w : World) (h : RdI w B A xs) (hB : B ≤ w.heap.size) (hl : xs.length ≤ 1048576) :
    Calls Try.prog 14 #[.slice A xs.length cap] w fun e w' => ∃ A' : Option Addr, e = .returned (.slice A' xs.length xs.length) ∧ OwnI w' w.heap.size A' xs.length xs ∧ Below w.heap.size w w' :=
  (toIntS_any A cap B xs w h hB hl).mono fun e w' ⟨he, hw⟩ => ⟨_, he, by
    rw [← hw]
    have := Own.new w 3 1 xs.length (cI xs) (by simp only [maxLen]; omega)
    rw [Nat.mul_one] at this
    exact this, by rw [← hw]; exact (Below.refl _ _).alloc (Nat.le_refl _) _⟩
/-- What marking leaves: k, k + 1, .. -/
def mkI (k : Int) (j : Nat) : Value := .int .i64 (k + j)
theorem markIntS_any (base : Nat) (A : Option Addr) (n cap : Nat) (f : Nat → Value) (k : Int) (w : World) (h : Own w base 3 1 A n cap f) (hn : n ≤ 1048576) (hk0 : 0 ≤ k) (hk : k ≤ 16777216) :
    Calls Try.prog 23 #[.slice A n cap, .int .i64 k] w fun e w' => e = .returned (.int .i64 (k + n)) ∧ Own w' base 3 1 A n cap (mkI k) ∧ w.grownBy w' (blk A) := by
  go_enter Try.func23, Try.ntmps23
  go_wp2
  go_loopw [1, 5] (fun q i wr => ∃ j : Nat, j ≤ n ∧ q = .int .i64 (k + j) ∧ i = .int .i64 j ∧ Own wr base 3 1 A n cap (fun x => if x < j then mkI k x else f x) ∧ w.grownBy wr (blk A)) (fun _ i _ => n - (intOf i).toNat)
  case atStart => exact ⟨0, Nat.zero_le _, by simp, rfl, by simpa using h, World.grownBy.refl _ _⟩
  case round =>
    obtain ⟨j, hj, rfl, rfl, hown, hgr⟩ := hrel
    by_cases hlt : j < n
    · rcases hown.shape with ⟨_, h0, _⟩ | ⟨b, hA, hb, hbs, _⟩
      · omega
      · have hc := hown.cell hA (j := j) (by omega)
        have hf := hown.frozen hA j
        have hset := hown.set hA (j := j) (.int .i64 (k + j))
        have HS := Lib.hid hset
        have HO := Lib.hid hown
        have HG := Lib.hid hgr
        simp only [Nat.lt_irrefl, if_false] at hc
        clear hset hown hgr
        subst hA
        go_wp2
        go_roundw
        case rel => exact ⟨j + 1, by omega, by go_num, by go_num, Own.congr HS.out.1 (fun x _ => by
            by_cases hxj : x = j
            · subst hxj; simp [mkI]
            · by_cases hx : x < j
              · simp [hxj, hx, Nat.lt_succ_of_lt hx]
              · rw [if_neg hxj, if_neg hx, if_neg (by omega)]), HG.out.trans HS.out.2⟩
        case measure => simp [intOf]; omega
    · obtain rfl : j = n := by omega
      go_wp2
      go_ret
      exact ⟨rfl, Own.congr hown (fun x hx => by rw [if_pos (by omega)]), hgr⟩
theorem heldIntS_any (B : Nat) (A : Option Addr) (n cap : Nat) (k : Int) (w : World) (h : Rd w B 1 A n (mkI k)) (hn : n ≤ 1048576) (hk0 : 0 ≤ k) (hk : k ≤ 16777216) :
    Calls Try.prog 24 #[.slice A n cap, .int .i64 k] w fun e w' => e = .returned (.int .i64 (k + n)) ∧ w = w' := by
  go_enter Try.func24, Try.ntmps24
  go_wp2
  go_loop [1, 5] (fun q i => ∃ j : Nat, j ≤ n ∧ q = .int .i64 (k + j) ∧ i = .int .i64 j) (fun _ i => n - (intOf i).toNat)
  case atStart => exact ⟨0, Nat.zero_le _, by simp, rfl⟩
  case round =>
    obtain ⟨j, hj, rfl, rfl⟩ := hrel
    by_cases hlt : j < n
    · obtain ⟨b, off, rfl, hb, hc⟩ := h (by omega)
      have hck : w.cell? ⟨b, off + j, none⟩ = some (.int .i64 (k + j)) := hc j (by omega)
      have hne : ((k + j : Int) != k + j) = false := by simp
      clear hc
      go_wp2
      go_round
      case rel => exact ⟨j + 1, by omega, by go_num, by go_num⟩
      case measure => simp [intOf]; omega
    · obtain rfl : j = n := by omega
      go_wp2
      go_ret
      exact ⟨rfl, rfl⟩
end Go.Proofs.Ytnaiopbealnpmaa
