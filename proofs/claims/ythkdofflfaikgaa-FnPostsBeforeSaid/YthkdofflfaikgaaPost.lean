import Derived.Test.YthkdofflfaikgaaElems
import Derived.StillTailTactics
namespace Go.Proofs.Ythkdofflfaikgaa
open Go.RowKit
theorem info_Post : (Try.prog.info? 33).map (fun i => (i.zero, i.size, i.bytes)) = some (some (.agg #[.int .i64 0, .int .i64 0]), 2, 16) := by kernel_rfl
abbrev ElPost : Type := Int × Int
/-- Its cells. -/
def encPost (p : ElPost) : Nat → Value
  | 0 => Value.int .i64 (p.1)
  | _ => Value.int .i64 (p.2)
theorem encPost_one (p : ElPost) (i : Nat) : (encPost p i).oneCell' = true := by unfold encPost; split <;> rfl
theorem toPost_any (a : Int) (b : Int) (w : World) : Calls Try.prog 23 #[.agg #[.int .i64 a, .int .i64 b]] w fun e w' => e = .returned (.agg #[.int .i64 a, .int .i64 b]) ∧ Below w.heap.size w w' := by
  go_enter Try.func23, Try.ntmps23
  go_wp2
  refine bodyPost_ret (v := .agg #[.int .i64 a, .int .i64 b]) (by simp [results, Try.results23, go_sem]) rfl ⟨rfl, ?_⟩
  repeat (first | exact Below.refl _ _ | refine Below.alloc ?_ (by simp; try omega) _ | refine Below.setCell ?_ (by simp; try omega) _)

theorem stood_Post : Try.prog.stoodInHeld 33 = false := by kernel_rfl
theorem guard_Post : Try.prog.eqGuardType Try.prog.depth 33 = false := by kernel_rfl
theorem eqIn_Post (a : Int) (b : Int) (p : Int) (q : Int) (w : World) : (Op.equalIn 10000 33 (.agg #[.int .i64 a, .int .i64 b]) (.agg #[.int .i64 p, .int .i64 q])).run Try.prog w = .ok (eqEl (α := ElPost) (a, b) (p, q)) w := by
  rw [run_equalIn_agg w 9999 33 _ _ (by rw [Program.fieldsOf, Try.underlying33]) stood_Post]
  simp only [Program.fieldsOf, Try.underlying33]
  simp [go_sem, Try.underlying3]
  by_cases h0 : a = p <;> by_cases h1 : b = q <;> simp [eqEl, *]
theorem neq_Post (a : Int) (b : Int) (p : Int) (q : Int) (w : World) : (binOp .neq 33 (.agg #[.int .i64 a, .int .i64 b]) (.agg #[.int .i64 p, .int .i64 q])).run Try.prog w = .ok (.bool (!eqEl (α := ElPost) (a, b) (p, q))) w := by
  rw [run_neq_struct, eqIn_Post]; rfl
theorem eql_Post (a : Int) (b : Int) (p : Int) (q : Int) (w : World) : (binOp .eql 33 (.agg #[.int .i64 a, .int .i64 b]) (.agg #[.int .i64 p, .int .i64 q])).run Try.prog w = .ok (.bool (eqEl (α := ElPost) (a, b) (p, q))) w := by
  rw [run_eql_struct, eqIn_Post]; rfl
theorem eqPost_any (a : Int) (b : Int) (p : Int) (q : Int) (w : World) : Calls Try.prog 35 #[.agg #[.int .i64 a, .int .i64 b], .agg #[.int .i64 p, .int .i64 q]] w fun e w' => e = .returned (.bool (eqEl (α := ElPost) (a, b) (p, q))) ∧ Below w.heap.size w w' := by
  by_cases h0 : a = p
  · have b0 : (a != p) = false := by simp [h0]
    by_cases h1 : b = q
    · have b1 : (b != q) = false := by simp [h1]
      have HQ := Lib.hid (eqEl_true (α := ElPost) (show ((a, b) : ElPost) = (p, q) by simp [*]))
      clear h0 h1
      go_enter Try.func35, Try.ntmps35
      go_wp2
      go_ret
      exact ⟨ret_bool HQ.out.symm, (((Below.refl _ _).alloc (Nat.le_refl _) _).alloc (by simp) _)⟩
    · have b1 : (b != q) = true := by simp [h1]
      have HQ := Lib.hid (eqEl_false (α := ElPost) (show ((a, b) : ElPost) ≠ (p, q) by simp [*]))
      clear h0 h1
      go_enter Try.func35, Try.ntmps35
      go_wp2
      go_ret
      exact ⟨ret_bool HQ.out.symm, (((Below.refl _ _).alloc (Nat.le_refl _) _).alloc (by simp) _)⟩
  · have b0 : (a != p) = true := by simp [h0]
    have HQ := Lib.hid (eqEl_false (α := ElPost) (show ((a, b) : ElPost) ≠ (p, q) by simp [*]))
    clear h0
    go_enter Try.func35, Try.ntmps35
    go_wp2
    go_ret
    exact ⟨ret_bool HQ.out.symm, (((Below.refl _ _).alloc (Nat.le_refl _) _).alloc (by simp) _)⟩
theorem toPostS_any (A : Option Addr) (cap B : Nat) (xs : List ElPost) (w : World) (h : RdE 2 encPost w B A xs) (hB : B ≤ w.heap.size) (hl : xs.length ≤ 1048576) :
    Calls Try.prog 13 #[.slice A xs.length cap] w fun e w' => ∃ A' : Option Addr, e = .returned (.slice A' xs.length xs.length) ∧ OwnE 2 encPost 33 w' w.heap.size A' xs.length xs ∧ Below w.heap.size w w' := by
  have hmk := mk_run (P := Try.prog) 25 33 _ _ _ Try.underlying25 info_Post xs.length (by omega) (by omega)
  go_enter Try.func13, Try.ntmps13
  go_wp2_with fail
  have hst := Own.made w 33 2 xs.length #[.int .i64 0, .int .i64 0] encPost (by simp only [maxLen]; omega) rfl (fun i hi => by rcases (by omega : i = 0 ∨ i = 1) with rfl | rfl <;> rfl)
  go_loopw [4] (fun i wr => ∃ k : Nat, k ≤ xs.length ∧ i = .int .i64 k ∧ Own wr w.heap.size 33 2 (some ⟨w.heap.size, 0, none⟩) xs.length xs.length (cE 2 encPost (xs.take k)) ∧ Below w.heap.size w wr) (fun i _ => xs.length - (intOf i).toNat)
  case atStart => exact ⟨0, Nat.zero_le _, rfl, hst, (Below.refl _ _).alloc (Nat.le_refl _) _⟩
  case round =>
    clear hst
    obtain ⟨k, hk, rfl, hown, hbl⟩ := hrel
    by_cases hlt : k < xs.length
    · obtain ⟨b, off, rfl, hb, hc⟩ := (h.below (hbl.mono hB)).at_ (by omega)
      have c0 : wr.cell? ⟨b, off + k * 2, none⟩ = some (Value.int .i64 ((gt xs k).1)) := hc k 0 (by omega) (by omega)
      have c1 : wr.cell? ⟨b, off + k * 2 + 1, none⟩ = some (Value.int .i64 ((gt xs k).2)) := hc k 1 (by omega) (by omega)
      clear hc
      go_wp2_with fail
      refine (toPost_any _ _ _).mono ?_
      rintro e w1 ⟨rfl, hb1⟩
      have hown1 := Own.below hown hb1
      have d0 := hown1.cell rfl (j := k * 2) (by omega)
      have e0 := hown1.frozen rfl (k * 2)
      have d1 := hown1.cell rfl (j := k * 2 + 1) (by omega)
      have e1 := hown1.frozen rfl (k * 2 + 1)
      have s0 := (hown1).set rfl (j := k * 2) (Value.int .i64 ((gt xs k).1))
      have s1 := (s0.1).set rfl (j := k * 2 + 1) (Value.int .i64 ((gt xs k).2))
      have HS := Lib.hid s1.1
      have HG := Lib.hid ((s0.2).trans s1.2)
      have HX := Lib.hid (hbl.trans (hb1.mono hbl.size))
      have hsz := Nat.le_trans hbl.size hb1.size
      clear s0 s1 hown hown1 hbl hb1
      go_wp2_with fail
      go_roundw
      case rel => exact ⟨k + 1, by omega, by go_num, Own.congr HS.out (fun j _ => by
          rw [cE_take_step encPost]
          exact set_cells_2 k j _ _ rfl rfl), HX.out.trans (grown_below HG.out (fun b hb => by simp [blk] at hb; omega) hsz)⟩
      case measure => simp [intOf]; omega
    · obtain rfl : k = xs.length := by omega
      go_wp2_with fail
      go_ret
      rw [List.take_of_length_le (Nat.le_refl _)] at hown
      exact ⟨_, rfl, hown, hbl⟩
theorem eqPostS_any (A A' : Option Addr) (cap cap' B : Nat) (xs ys : List ElPost) (w : World) (h : RdE 2 encPost w B A xs) (h' : RdE 2 encPost w B A' ys) (hB : B ≤ w.heap.size) (hl : xs.length ≤ 140737488351232) (hl' : ys.length ≤ 140737488351232) :
    Calls Try.prog 15 #[.slice A xs.length cap, .slice A' ys.length cap'] w fun e w' => e = .returned (.bool (sameB xs ys)) ∧ Below w.heap.size w w' := by
  by_cases hlen : xs.length = ys.length
  · have HL := Lib.hid hlen
    have hd : ((xs.length : Int) != (ys.length : Int)) = false := by rw [hlen]; simp
    have hle : xs.length ≤ ys.length := by omega
    clear hlen
    go_enter Try.func15, Try.ntmps15
    go_wp2_with fail
    go_loopw [5] (fun i wr => ∃ k : Nat, k ≤ xs.length ∧ Hid (∀ j, j < k → gt xs j = gt ys j) ∧ i = .int .i64 k ∧ Below w.heap.size w wr) (fun i _ => xs.length - (intOf i).toNat)
    case atStart => exact ⟨0, Nat.zero_le _, Lib.hid (fun j hj => absurd hj (by omega)), rfl, Below.refl _ _⟩
    case round =>
      obtain ⟨k, hk, HO, rfl, hbl⟩ := hrel
      by_cases hlt : k < xs.length
      · obtain ⟨b, off, rfl, hb, hc⟩ := (h.below (hbl.mono hB)).at_ (by omega)
        obtain ⟨b', off', rfl, hb', hc'⟩ := (h'.below (hbl.mono hB)).at_ (by omega)
        have c0 : wr.cell? ⟨b, off + k * 2, none⟩ = some (Value.int .i64 ((gt xs k).1)) := hc k 0 (by omega) (by omega)
        have c1 : wr.cell? ⟨b, off + k * 2 + 1, none⟩ = some (Value.int .i64 ((gt xs k).2)) := hc k 1 (by omega) (by omega)
        have d0 : wr.cell? ⟨b', off' + k * 2, none⟩ = some (Value.int .i64 ((gt ys k).1)) := hc' k 0 (by omega) (by omega)
        have d1 : wr.cell? ⟨b', off' + k * 2 + 1, none⟩ = some (Value.int .i64 ((gt ys k).2)) := hc' k 1 (by omega) (by omega)
        have hlt' : k < ys.length := by omega
        clear hc hc'
        by_cases hne : gt xs k = gt ys k
        · have hn : eqEl (α := ElPost) ((gt xs k).1, (gt xs k).2) ((gt ys k).1, (gt ys k).2) = true := eqEl_true hne
          have HN := Lib.hid hne; clear hne
          go_wp2_with fail
          go_still_tail 8, (by kernel_rfl)
          go_wp2_with (go_at_call 35; refine (eqPost_any _ _ _ _ _).mono ?_; rintro e w1 ⟨rfl, hb1⟩)
          go_roundw
          case rel => exact ⟨k + 1, by omega, Lib.hid (fun j hj => by
            rcases Nat.lt_succ_iff_lt_or_eq.1 hj with h1 | rfl
            · exact HO.out j h1
            · exact HN.out), by go_num, hbl.trans ((below_drew1 _).trans hb1 |> (·.mono hbl.size))⟩
          case measure => simp [intOf]; omega
        · have hn : eqEl (α := ElPost) ((gt xs k).1, (gt xs k).2) ((gt ys k).1, (gt ys k).2) = false := eqEl_false hne
          have HN := Lib.hid hne; clear hne
          go_wp2_with fail
          go_still_tail 8, (by kernel_rfl)
          go_wp2_with (go_at_call 35; refine (eqPost_any _ _ _ _ _).mono ?_; rintro e w1 ⟨rfl, hb1⟩)
          go_ret
          exact ⟨ret_bool (sameB_at HN.out).symm, hbl.trans ((below_drew1 _).trans hb1 |> (·.mono hbl.size))⟩
      · obtain rfl : k = xs.length := by omega
        go_wp2_with fail
        go_ret
        exact ⟨ret_bool (sameB_true HL.out HO.out).symm, hbl⟩
  · have hd : ((xs.length : Int) != (ys.length : Int)) = true := by simp; omega
    go_enter Try.func15, Try.ntmps15
    go_wp2_with fail
    go_ret
    exact ⟨ret_bool (sameB_len hlen).symm, Below.refl _ _⟩
theorem samePosts_any (A A' : Option Addr) (cap cap' B : Nat) (xs ys : List ElPost) (w : World) (h : RdE 2 encPost w B A xs) (h' : RdE 2 encPost w B A' ys) (hB : B ≤ w.heap.size) (hl : xs.length ≤ 140737488351232) (hl' : ys.length ≤ 140737488351232) :
    Calls Try.prog 28 #[.slice A xs.length cap, .slice A' ys.length cap'] w fun e w' => e = .returned (.bool (sameB xs ys)) ∧ Below w.heap.size w w' := by
  by_cases hlen : xs.length = ys.length
  · have HL := Lib.hid hlen
    have hd : ((xs.length : Int) != (ys.length : Int)) = false := by rw [hlen]; simp
    have hle : xs.length ≤ ys.length := by omega
    clear hlen
    go_enter Try.func28, Try.ntmps28
    go_wp2_with fail
    go_loopw [5] (fun i wr => ∃ k : Nat, k ≤ xs.length ∧ Hid (∀ j, j < k → gt xs j = gt ys j) ∧ i = .int .i64 k ∧ Below w.heap.size w wr) (fun i _ => xs.length - (intOf i).toNat)
    case atStart => exact ⟨0, Nat.zero_le _, Lib.hid (fun j hj => absurd hj (by omega)), rfl, Below.refl _ _⟩
    case round =>
      obtain ⟨k, hk, HO, rfl, hbl⟩ := hrel
      by_cases hlt : k < xs.length
      · obtain ⟨b, off, rfl, hb, hc⟩ := (h.below (hbl.mono hB)).at_ (by omega)
        obtain ⟨b', off', rfl, hb', hc'⟩ := (h'.below (hbl.mono hB)).at_ (by omega)
        have c0 : wr.cell? ⟨b, off + k * 2, none⟩ = some (Value.int .i64 ((gt xs k).1)) := hc k 0 (by omega) (by omega)
        have c1 : wr.cell? ⟨b, off + k * 2 + 1, none⟩ = some (Value.int .i64 ((gt xs k).2)) := hc k 1 (by omega) (by omega)
        have d0 : wr.cell? ⟨b', off' + k * 2, none⟩ = some (Value.int .i64 ((gt ys k).1)) := hc' k 0 (by omega) (by omega)
        have d1 : wr.cell? ⟨b', off' + k * 2 + 1, none⟩ = some (Value.int .i64 ((gt ys k).2)) := hc' k 1 (by omega) (by omega)
        have hlt' : k < ys.length := by omega
        clear hc hc'
        by_cases hne : gt xs k = gt ys k
        · have hn : eqEl (α := ElPost) ((gt xs k).1, (gt xs k).2) ((gt ys k).1, (gt ys k).2) = true := eqEl_true hne
          have HN := Lib.hid hne; clear hne
          go_wp2_with fail
          have hneq := fun w' => neq_Post (gt xs k).1 (gt xs k).2 (gt ys k).1 (gt ys k).2 w'
          have hgd := guard_Post
          go_quiet (fail)
          go_wp2_with fail
          go_roundw
          case rel => exact ⟨k + 1, by omega, Lib.hid (fun j hj => by
            rcases Nat.lt_succ_iff_lt_or_eq.1 hj with h1 | rfl
            · exact HO.out j h1
            · exact HN.out), by go_num, hbl.trans (below_drewN (Below.refl _ _) _)⟩
          case measure => simp [intOf]; omega
        · have hn : eqEl (α := ElPost) ((gt xs k).1, (gt xs k).2) ((gt ys k).1, (gt ys k).2) = false := eqEl_false hne
          have HN := Lib.hid hne; clear hne
          go_wp2_with fail
          have hneq := fun w' => neq_Post (gt xs k).1 (gt xs k).2 (gt ys k).1 (gt ys k).2 w'
          have hgd := guard_Post
          go_quiet (fail)
          go_wp2_with fail
          go_ret
          exact ⟨ret_bool (sameB_at HN.out).symm, hbl.trans (below_drewN (Below.refl _ _) _)⟩
      · obtain rfl : k = xs.length := by omega
        go_wp2_with fail
        go_ret
        exact ⟨ret_bool (sameB_true HL.out HO.out).symm, hbl⟩
  · have hd : ((xs.length : Int) != (ys.length : Int)) = true := by simp; omega
    go_enter Try.func28, Try.ntmps28
    go_wp2_with fail
    go_ret
    exact ⟨ret_bool (sameB_len hlen).symm, Below.refl _ _⟩
/-- What marking leaves in the cells. -/
def mkPost (k : Int) (j : Nat) : Value :=
  match j % 2 with
  | 0 => Value.int .i64 (k + j)
  | _ => Value.int .i64 (k + j)
theorem mkPost_0 (k : Int) (j : Nat) : mkPost k (j * 2) = Value.int .i64 (k + (j : Int) * 2) := by
  unfold mkPost
  rw [show (j * 2) % 2 = 0 by omega, show (k + ((j * 2 : Nat) : Int)) = k + (j : Int) * 2 by omega]
  rfl
theorem mkPost_1 (k : Int) (j : Nat) : mkPost k (j * 2 + 1) = Value.int .i64 (k + (j : Int) * 2 + 1) := by
  unfold mkPost
  rw [show (j * 2 + 1) % 2 = 1 by omega, show (k + ((j * 2 + 1 : Nat) : Int)) = k + (j : Int) * 2 + 1 by omega]
  rfl
theorem markPostS_any (base : Nat) (A : Option Addr) (n cap : Nat) (f : Nat → Value) (k : Int) (w : World) (h : Own w base 33 2 A n cap f) (hn : n ≤ 1048576) (hk0 : 0 ≤ k) (hk : k ≤ 33554432) :
    Calls Try.prog 20 #[.slice A n cap, .int .i64 k] w fun e w' => e = .returned (.int .i64 (k + (n : Int) * 2)) ∧ Own w' base 33 2 A n cap (mkPost k) ∧ w.grownBy w' (blk A) := by
  go_enter Try.func20, Try.ntmps20
  go_wp2_with fail
  go_loopw [1, 5] (fun q i wr => ∃ j : Nat, j ≤ n ∧ q = .int .i64 (k + (j : Int) * 2) ∧ i = .int .i64 j ∧ Own wr base 33 2 A n cap (fun x => if x < j * 2 then mkPost k x else f x) ∧ w.grownBy wr (blk A)) (fun _ i _ => n - (intOf i).toNat)
  case atStart => exact ⟨0, Nat.zero_le _, by simp, rfl, by simpa using h, World.grownBy.refl _ _⟩
  case round =>
    obtain ⟨j, hj, rfl, rfl, hown, hgr⟩ := hrel
    by_cases hlt : j < n
    · rcases hown.shape with ⟨_, h0, _⟩ | ⟨b, hA, hb, hbs, _⟩
      · omega
      · subst hA
        have c0 := hown.cell rfl (j := j * 2) (by omega)
        have f0 := hown.frozen rfl (j * 2)
        rw [if_neg (by omega)] at c0
        have c1 := hown.cell rfl (j := j * 2 + 1) (by omega)
        have f1 := hown.frozen rfl (j * 2 + 1)
        rw [if_neg (by omega)] at c1
        have s0 := (hown).set rfl (j := j * 2) (Value.int .i64 (k + (j : Int) * 2))
        have s1 := (s0.1).set rfl (j := j * 2 + 1) (Value.int .i64 (k + (j : Int) * 2 + 1))
        have HS := Lib.hid s1.1
        have HG := Lib.hid (((hgr).trans s0.2).trans s1.2)
        clear s0 s1 hown hgr
        go_wp2_with fail
        go_roundw
        case rel => exact ⟨j + 1, by omega, by go_num, by go_num, Own.congr HS.out (fun x _ => mark_cells_2 j x _ _ (mkPost_0 k j) (mkPost_1 k j)), HG.out⟩
        case measure => simp [intOf]; omega
    · obtain rfl : j = n := by omega
      go_wp2_with fail
      go_ret
      exact ⟨rfl, Own.congr hown (fun x hx => by rw [if_pos hx]), hgr⟩
theorem heldPostS_any (B : Nat) (A : Option Addr) (n cap : Nat) (k : Int) (w : World) (h : Rd w B 2 A n (mkPost k)) (hB : B ≤ w.heap.size) (hn : n ≤ 1048576) (hk0 : 0 ≤ k) (hk : k ≤ 33554432) :
    Calls Try.prog 21 #[.slice A n cap, .int .i64 k] w fun e w' => e = .returned (.int .i64 (k + (n : Int) * 2)) ∧ Below w.heap.size w w' := by
  go_enter Try.func21, Try.ntmps21
  go_wp2_with fail
  go_loopw [1, 5] (fun q i wr => ∃ j : Nat, j ≤ n ∧ q = .int .i64 (k + (j : Int) * 2) ∧ i = .int .i64 j ∧ Below w.heap.size w wr) (fun _ i _ => n - (intOf i).toNat)
  case atStart => exact ⟨0, Nat.zero_le _, by simp, rfl, Below.refl _ _⟩
  case round =>
    obtain ⟨j, hj, rfl, rfl, hbl⟩ := hrel
    by_cases hlt : j < n
    · obtain ⟨b, off, rfl, hb, hc⟩ := (h.below (hbl.mono hB)) (by omega)
      have c0 := hc (j * 2) (by omega)
      rw [mkPost_0] at c0
      have q0 : ((k + (j : Int) * 2 : Int) != k + (j : Int) * 2) = false := by simp
      have c1 := hc (j * 2 + 1) (by omega)
      rw [mkPost_1] at c1
      rw [← Nat.add_assoc] at c1
      have q1 : ((k + (j : Int) * 2 + 1 : Int) != k + (j : Int) * 2 + 1) = false := by simp
      clear hc
      go_wp2_with fail
      go_roundw
      case rel => exact ⟨j + 1, by omega, by go_num, by go_num, hbl⟩
      case measure => simp [intOf]; omega
    · obtain rfl : j = n := by omega
      go_wp2_with fail
      go_ret
      exact ⟨rfl, hbl⟩
theorem szPostS_any (A : Option Addr) (n cap : Nat) (left : Int) (w : World) (hn : n ≤ 9223372036854775807) (h0 : 0 ≤ left) (h1 : left ≤ 1048576) :
    Calls Try.prog 11 #[.slice A n cap, .int .i64 left] w fun e w' => e = .returned (.int .i64 (szL left n)) ∧ w = w' := by
  by_cases hlt : left - (n : Int) < 0
  · have hd : decide (left - (n : Int) < 0) = true := by simp [hlt]
    have HZ := Lib.hid (szL_no hlt)
    go_enter Try.func11, Try.ntmps11
    go_wp2_with fail
    go_ret
    exact ⟨ret_int HZ.out.symm, rfl⟩
  · have hd : decide (left - (n : Int) < 0) = false := by simp; omega
    have HZ := Lib.hid (szL_yes (by omega : (n : Int) ≤ left))
    go_enter Try.func11, Try.ntmps11
    go_wp2_with fail
    go_ret
    exact ⟨ret_int HZ.out.symm, rfl⟩end Go.Proofs.Ythkdofflfaikgaa
