import Derived.Test.YtdcppbaahoimfaaHandle
import Derived.StillTailTactics
import Derived.Deep.RegionHeld3
namespace Go.Proofs.Ytdcppbaahoimfaa
open Go.RowKit
theorem info_Move : (Try.prog.info? 30).map (fun i => (i.zero, i.size, i.bytes)) = some (some (.agg #[.string ByteArray.empty, .string ByteArray.empty, .string ByteArray.empty, .string ByteArray.empty]), 4, 64) := by kernel_rfl
abbrev ElMove : Type := ElHandle × ElHandle
/-- Its cells. -/
def encMove (p : ElMove) : Nat → Value
  | 0 => Value.string (p.1.1)
  | 1 => Value.string (p.1.2)
  | 2 => Value.string (p.2.1)
  | _ => Value.string (p.2.2)
theorem encMove_one (p : ElMove) (i : Nat) : (encMove p i).oneCell' = true := by unfold encMove; split <;> rfl

theorem toMove_any (a : ByteArray) (b : ByteArray) (c : ByteArray) (d : ByteArray) (w : World) : Calls Try.prog 30 #[.agg #[.string a, .string b, .string c, .string d]] w fun e w' => e = .returned (.agg #[.string a, .string b, .string c, .string d]) ∧ Below w.heap.size w w' := by
  go_enter Try.func30, Try.ntmps30
  go_wp2
  refine bodyPost_ret (v := .agg #[.string a, .string b]) (by simp [results, Try.results23, go_sem]) rfl ?_
  go_wp2
  refine bodyPost_ret (v := .agg #[.string c, .string d]) (by simp [results, Try.results23, go_sem]) rfl ?_
  go_wp2
  refine bodyPost_ret (v := .agg #[.string a, .string b, .string c, .string d]) (by simp [results, Try.results30, go_sem]) rfl ⟨rfl, ?_⟩
  repeat (first | exact Below.refl _ _ | refine Below.alloc ?_ (by simp; try omega) _ | refine Below.setCell ?_ (by simp; try omega) _)

theorem eqMove_any (a : ByteArray) (b : ByteArray) (c : ByteArray) (d : ByteArray) (p : ByteArray) (q : ByteArray) (r : ByteArray) (s : ByteArray) (w : World) : Calls Try.prog 49 #[.agg #[.string a, .string b, .string c, .string d], .agg #[.string p, .string q, .string r, .string s]] w fun e w' => e = .returned (.bool (eqEl (α := ElMove) ((a, b), (c, d)) ((p, q), (r, s)))) ∧ Below w.heap.size w w' := by
  by_cases h0 : a = p
  · have b0 : (a.toList == p.toList) = true := by rw [seq_eql]; simp [seq, h0]
    have b0n : (a.toList != p.toList) = false := by rw [seq_neq]; simp [seq, h0]
    by_cases h1 : b = q
    · have b1 : (b.toList == q.toList) = true := by rw [seq_eql]; simp [seq, h1]
      have b1n : (b.toList != q.toList) = false := by rw [seq_neq]; simp [seq, h1]
      by_cases h2 : c = r
      · have b2 : (c.toList == r.toList) = true := by rw [seq_eql]; simp [seq, h2]
        have b2n : (c.toList != r.toList) = false := by rw [seq_neq]; simp [seq, h2]
        by_cases h3 : d = s
        · have b3 : (d.toList == s.toList) = true := by rw [seq_eql]; simp [seq, h3]
          have b3n : (d.toList != s.toList) = false := by rw [seq_neq]; simp [seq, h3]
          have HQ := Lib.hid (eqEl_true (α := ElMove) (show (((a, b), (c, d)) : ElMove) = ((p, q), (r, s)) by simp [*]))
          clear h0 h1 h2 h3
          go_enter Try.func49, Try.ntmps49
          go_wp2
          go_ret
          refine ⟨ret_bool HQ.out.symm, ?_⟩
          repeat (first | exact Below.refl _ _ | refine Below.alloc ?_ (by simp; try omega) _)
        · have b3 : (d.toList == s.toList) = false := by rw [seq_eql]; simp [seq, h3]
          have b3n : (d.toList != s.toList) = true := by rw [seq_neq]; simp [seq, h3]
          have HQ := Lib.hid (eqEl_false (α := ElMove) (show (((a, b), (c, d)) : ElMove) ≠ ((p, q), (r, s)) by simp [*]))
          clear h0 h1 h2 h3
          go_enter Try.func49, Try.ntmps49
          go_wp2
          go_ret
          refine ⟨ret_bool HQ.out.symm, ?_⟩
          repeat (first | exact Below.refl _ _ | refine Below.alloc ?_ (by simp; try omega) _)
      · have b2 : (c.toList == r.toList) = false := by rw [seq_eql]; simp [seq, h2]
        have b2n : (c.toList != r.toList) = true := by rw [seq_neq]; simp [seq, h2]
        have HQ := Lib.hid (eqEl_false (α := ElMove) (show (((a, b), (c, d)) : ElMove) ≠ ((p, q), (r, s)) by simp [*]))
        clear h0 h1 h2
        go_enter Try.func49, Try.ntmps49
        go_wp2
        go_ret
        refine ⟨ret_bool HQ.out.symm, ?_⟩
        repeat (first | exact Below.refl _ _ | refine Below.alloc ?_ (by simp; try omega) _)
    · have b1 : (b.toList == q.toList) = false := by rw [seq_eql]; simp [seq, h1]
      have b1n : (b.toList != q.toList) = true := by rw [seq_neq]; simp [seq, h1]
      have HQ := Lib.hid (eqEl_false (α := ElMove) (show (((a, b), (c, d)) : ElMove) ≠ ((p, q), (r, s)) by simp [*]))
      clear h0 h1
      go_enter Try.func49, Try.ntmps49
      go_wp2
      go_ret
      refine ⟨ret_bool HQ.out.symm, ?_⟩
      repeat (first | exact Below.refl _ _ | refine Below.alloc ?_ (by simp; try omega) _)
  · have b0 : (a.toList == p.toList) = false := by rw [seq_eql]; simp [seq, h0]
    have b0n : (a.toList != p.toList) = true := by rw [seq_neq]; simp [seq, h0]
    have HQ := Lib.hid (eqEl_false (α := ElMove) (show (((a, b), (c, d)) : ElMove) ≠ ((p, q), (r, s)) by simp [*]))
    clear h0
    go_enter Try.func49, Try.ntmps49
    go_wp2
    go_ret
    refine ⟨ret_bool HQ.out.symm, ?_⟩
    repeat (first | exact Below.refl _ _ | refine Below.alloc ?_ (by simp; try omega) _)
theorem toMoveS_any (A : Option Addr) (cap B : Nat) (xs : List ElMove) (w : World) (h : RdE 4 encMove w B A xs) (hB : B ≤ w.heap.size) (hl : xs.length ≤ 1048576) :
    Calls Try.prog 16 #[.slice A xs.length cap] w fun e w' => ∃ A' : Option Addr, e = .returned (.slice A' xs.length xs.length) ∧ OwnE 4 encMove 30 w' w.heap.size A' xs.length xs ∧ Below w.heap.size w w' := by
  have hmk := mk_run (P := Try.prog) 23 30 _ _ _ Try.underlying23 info_Move xs.length (by omega) (by omega)
  go_enter Try.func16, Try.ntmps16
  go_wp2_with fail
  have hst := Own.made w 30 4 xs.length #[.string ByteArray.empty, .string ByteArray.empty, .string ByteArray.empty, .string ByteArray.empty] encMove (by simp only [maxLen]; omega) rfl (fun i hi => by rcases (by omega : i = 0 ∨ i = 1 ∨ i = 2 ∨ i = 3) with rfl | rfl | rfl | rfl <;> rfl)
  go_loopw [4] (fun i wr => ∃ k : Nat, k ≤ xs.length ∧ i = .int .i64 k ∧ Own wr w.heap.size 30 4 (some ⟨w.heap.size, 0, none⟩) xs.length xs.length (cE 4 encMove (xs.take k)) ∧ Below w.heap.size w wr) (fun i _ => xs.length - (intOf i).toNat)
  case atStart => exact ⟨0, Nat.zero_le _, rfl, hst, (Below.refl _ _).alloc (Nat.le_refl _) _⟩
  case round =>
    clear hst
    obtain ⟨k, hk, rfl, hown, hbl⟩ := hrel
    by_cases hlt : k < xs.length
    · obtain ⟨b, off, rfl, hb, hc⟩ := (h.below (hbl.mono hB)).at_ (by omega)
      have c0 : wr.cell? ⟨b, off + k * 4, none⟩ = some (Value.string ((gt xs k).1.1)) := hc k 0 (by omega) (by omega)
      have c1 : wr.cell? ⟨b, off + k * 4 + 1, none⟩ = some (Value.string ((gt xs k).1.2)) := hc k 1 (by omega) (by omega)
      have c2 : wr.cell? ⟨b, off + k * 4 + 2, none⟩ = some (Value.string ((gt xs k).2.1)) := hc k 2 (by omega) (by omega)
      have c3 : wr.cell? ⟨b, off + k * 4 + 3, none⟩ = some (Value.string ((gt xs k).2.2)) := hc k 3 (by omega) (by omega)
      clear hc
      go_wp2_with fail
      refine (toMove_any _ _ _ _ _).mono ?_
      rintro e w1 ⟨rfl, hb1⟩
      have hown1 := Own.below hown hb1
      have d0 := hown1.cell rfl (j := k * 4) (by omega)
      have e0 := hown1.frozen rfl (k * 4)
      have d1 := hown1.cell rfl (j := k * 4 + 1) (by omega)
      have e1 := hown1.frozen rfl (k * 4 + 1)
      have d2 := hown1.cell rfl (j := k * 4 + 2) (by omega)
      have e2 := hown1.frozen rfl (k * 4 + 2)
      have d3 := hown1.cell rfl (j := k * 4 + 3) (by omega)
      have e3 := hown1.frozen rfl (k * 4 + 3)
      have s0 := (hown1).set rfl (j := k * 4) (Value.string ((gt xs k).1.1))
      have s1 := (s0.1).set rfl (j := k * 4 + 1) (Value.string ((gt xs k).1.2))
      have s2 := (s1.1).set rfl (j := k * 4 + 2) (Value.string ((gt xs k).2.1))
      have s3 := (s2.1).set rfl (j := k * 4 + 3) (Value.string ((gt xs k).2.2))
      have HS := Lib.hid s3.1
      have HG := Lib.hid ((((s0.2).trans s1.2).trans s2.2).trans s3.2)
      have HX := Lib.hid (hbl.trans (hb1.mono hbl.size))
      have hsz := Nat.le_trans hbl.size hb1.size
      clear s0 s1 s2 s3 hown hown1 hbl hb1
      go_wp2_with fail
      go_roundw
      case rel => exact ⟨k + 1, by omega, by go_num, Own.congr HS.out (fun j _ => by
          rw [cE_take_step encMove]
          exact set_cells_4 k j _ _ _ _ rfl rfl rfl rfl), HX.out.trans (grown_below HG.out (fun b hb => by simp [blk] at hb; omega) hsz)⟩
      case measure => simp [intOf]; omega
    · obtain rfl : k = xs.length := by omega
      go_wp2_with fail
      go_ret
      rw [List.take_of_length_le (Nat.le_refl _)] at hown
      exact ⟨_, rfl, hown, hbl⟩
theorem eqMoveS_any (A A' : Option Addr) (cap cap' B : Nat) (xs ys : List ElMove) (w : World) (h : RdE 4 encMove w B A xs) (h' : RdE 4 encMove w B A' ys) (hB : B ≤ w.heap.size) (hl : xs.length ≤ 140737488351232) (hl' : ys.length ≤ 140737488351232) :
    Calls Try.prog 17 #[.slice A xs.length cap, .slice A' ys.length cap'] w fun e w' => e = .returned (.bool (sameB xs ys)) ∧ Below w.heap.size w w' := by
  by_cases hlen : xs.length = ys.length
  · have HL := Lib.hid hlen
    have hd : ((xs.length : Int) != (ys.length : Int)) = false := by rw [hlen]; simp
    have hle : xs.length ≤ ys.length := by omega
    clear hlen
    go_enter Try.func17, Try.ntmps17
    go_wp2_with fail
    go_loopw [5] (fun i wr => ∃ k : Nat, k ≤ xs.length ∧ Hid (∀ j, j < k → gt xs j = gt ys j) ∧ i = .int .i64 k ∧ Below w.heap.size w wr) (fun i _ => xs.length - (intOf i).toNat)
    case atStart => exact ⟨0, Nat.zero_le _, Lib.hid (fun j hj => absurd hj (by omega)), rfl, Below.refl _ _⟩
    case round =>
      obtain ⟨k, hk, HO, rfl, hbl⟩ := hrel
      by_cases hlt : k < xs.length
      · obtain ⟨b, off, rfl, hb, hc⟩ := (h.below (hbl.mono hB)).at_ (by omega)
        obtain ⟨b', off', rfl, hb', hc'⟩ := (h'.below (hbl.mono hB)).at_ (by omega)
        have c0 : wr.cell? ⟨b, off + k * 4, none⟩ = some (Value.string ((gt xs k).1.1)) := hc k 0 (by omega) (by omega)
        have c1 : wr.cell? ⟨b, off + k * 4 + 1, none⟩ = some (Value.string ((gt xs k).1.2)) := hc k 1 (by omega) (by omega)
        have c2 : wr.cell? ⟨b, off + k * 4 + 2, none⟩ = some (Value.string ((gt xs k).2.1)) := hc k 2 (by omega) (by omega)
        have c3 : wr.cell? ⟨b, off + k * 4 + 3, none⟩ = some (Value.string ((gt xs k).2.2)) := hc k 3 (by omega) (by omega)
        have d0 : wr.cell? ⟨b', off' + k * 4, none⟩ = some (Value.string ((gt ys k).1.1)) := hc' k 0 (by omega) (by omega)
        have d1 : wr.cell? ⟨b', off' + k * 4 + 1, none⟩ = some (Value.string ((gt ys k).1.2)) := hc' k 1 (by omega) (by omega)
        have d2 : wr.cell? ⟨b', off' + k * 4 + 2, none⟩ = some (Value.string ((gt ys k).2.1)) := hc' k 2 (by omega) (by omega)
        have d3 : wr.cell? ⟨b', off' + k * 4 + 3, none⟩ = some (Value.string ((gt ys k).2.2)) := hc' k 3 (by omega) (by omega)
        have hlt' : k < ys.length := by omega
        clear hc hc'
        by_cases hne : gt xs k = gt ys k
        · have hn : eqEl (α := ElMove) (((gt xs k).1.1, (gt xs k).1.2), ((gt xs k).2.1, (gt xs k).2.2)) (((gt ys k).1.1, (gt ys k).1.2), ((gt ys k).2.1, (gt ys k).2.2)) = true := eqEl_true hne
          have HN := Lib.hid hne; clear hne
          go_wp2_with fail
          go_still_tail 8, (by kernel_rfl)
          go_wp2_with (go_at_call 49; refine (eqMove_any _ _ _ _ _ _ _ _ _).mono ?_; rintro e w1 ⟨rfl, hb1⟩)
          go_roundw
          case rel => exact ⟨k + 1, by omega, Lib.hid (fun j hj => by
            rcases Nat.lt_succ_iff_lt_or_eq.1 hj with h1 | rfl
            · exact HO.out j h1
            · exact HN.out), by go_num, hbl.trans ((below_drew1 _).trans hb1 |> (·.mono hbl.size))⟩
          case measure => simp [intOf]; omega
        · have hn : eqEl (α := ElMove) (((gt xs k).1.1, (gt xs k).1.2), ((gt xs k).2.1, (gt xs k).2.2)) (((gt ys k).1.1, (gt ys k).1.2), ((gt ys k).2.1, (gt ys k).2.2)) = false := eqEl_false hne
          have HN := Lib.hid hne; clear hne
          go_wp2_with fail
          go_still_tail 8, (by kernel_rfl)
          go_wp2_with (go_at_call 49; refine (eqMove_any _ _ _ _ _ _ _ _ _).mono ?_; rintro e w1 ⟨rfl, hb1⟩)
          go_ret
          exact ⟨ret_bool (sameB_at HN.out).symm, hbl.trans ((below_drew1 _).trans hb1 |> (·.mono hbl.size))⟩
      · obtain rfl : k = xs.length := by omega
        go_wp2_with fail
        go_ret
        exact ⟨ret_bool (sameB_true HL.out HO.out).symm, hbl⟩
  · have hd : ((xs.length : Int) != (ys.length : Int)) = true := by simp; omega
    go_enter Try.func17, Try.ntmps17
    go_wp2_with fail
    go_ret
    exact ⟨ret_bool (sameB_len hlen).symm, Below.refl _ _⟩
/-- What marking leaves in the cells. -/
def mkMove (k : Int) (j : Nat) : Value :=
  match j % 4 with
  | 0 => Value.string (mtext (k + j))
  | 1 => Value.string (mtext (k + j))
  | 2 => Value.string (mtext (k + j))
  | _ => Value.string (mtext (k + j))
theorem mkMove_0 (k : Int) (j : Nat) : mkMove k (j * 4) = Value.string (mtext (k + (j : Int) * 4)) := by
  unfold mkMove
  rw [show (j * 4) % 4 = 0 by omega, show (k + ((j * 4 : Nat) : Int)) = k + (j : Int) * 4 by omega]
  rfl
theorem mkMove_1 (k : Int) (j : Nat) : mkMove k (j * 4 + 1) = Value.string (mtext (k + (j : Int) * 4 + 1)) := by
  unfold mkMove
  rw [show (j * 4 + 1) % 4 = 1 by omega, show (k + ((j * 4 + 1 : Nat) : Int)) = k + (j : Int) * 4 + 1 by omega]
  rfl
theorem mkMove_2 (k : Int) (j : Nat) : mkMove k (j * 4 + 2) = Value.string (mtext (k + (j : Int) * 4 + 1 + 1)) := by
  unfold mkMove
  rw [show (j * 4 + 2) % 4 = 2 by omega, show (k + ((j * 4 + 2 : Nat) : Int)) = k + (j : Int) * 4 + 1 + 1 by omega]
  rfl
theorem mkMove_3 (k : Int) (j : Nat) : mkMove k (j * 4 + 3) = Value.string (mtext (k + (j : Int) * 4 + 1 + 1 + 1)) := by
  unfold mkMove
  rw [show (j * 4 + 3) % 4 = 3 by omega, show (k + ((j * 4 + 3 : Nat) : Int)) = k + (j : Int) * 4 + 1 + 1 + 1 by omega]
  rfl
theorem markMoveS_any (base : Nat) (A : Option Addr) (n cap : Nat) (f : Nat → Value) (k : Int) (w : World) (h : Own w base 30 4 A n cap f) (hn : n ≤ 1048576) (hk0 : 0 ≤ k) (hk : k ≤ 33554432) :
    Calls Try.prog 31 #[.slice A n cap, .int .i64 k] w fun e w' => e = .returned (.int .i64 (k + (n : Int) * 4)) ∧ Own w' base 30 4 A n cap (mkMove k) ∧ w.grownBy w' (blk A) := by
  go_enter Try.func31, Try.ntmps31
  go_wp2_with fail
  go_loopw [1, 5] (fun q i wr => ∃ j : Nat, j ≤ n ∧ q = .int .i64 (k + (j : Int) * 4) ∧ i = .int .i64 j ∧ Own wr base 30 4 A n cap (fun x => if x < j * 4 then mkMove k x else f x) ∧ w.grownBy wr (blk A)) (fun _ i _ => n - (intOf i).toNat)
  case atStart => exact ⟨0, Nat.zero_le _, by simp, rfl, by simpa using h, World.grownBy.refl _ _⟩
  case round =>
    obtain ⟨j, hj, rfl, rfl, hown, hgr⟩ := hrel
    by_cases hlt : j < n
    · rcases hown.shape with ⟨_, h0, _⟩ | ⟨b, hA, hb, hbs, _⟩
      · omega
      · subst hA
        go_wp2_with fail
        refine (markText_any _ _ (by omega) (by omega)).mono ?_
        rintro e v0 ⟨rfl, hb0⟩
        have o0 := Own.below (hown) hb0
        have g0 := keepG (hgr) hb0 (hgr).size
        have c0_0 := o0.cell rfl (j := j * 4) (by omega)
        have f0_0 := o0.frozen rfl (j * 4)
        have c0_1 := o0.cell rfl (j := j * 4 + 1) (by omega)
        have f0_1 := o0.frozen rfl (j * 4 + 1)
        have c0_2 := o0.cell rfl (j := j * 4 + 2) (by omega)
        have f0_2 := o0.frozen rfl (j * 4 + 2)
        have c0_3 := o0.cell rfl (j := j * 4 + 3) (by omega)
        have f0_3 := o0.frozen rfl (j * 4 + 3)
        have s0 := (o0).set rfl (j := j * 4) (Value.string (mtext (k + (j : Int) * 4)))
        have HS0 := Lib.hid (s0.1)
        have HG0 := Lib.hid ((g0).trans s0.2)
        clear s0 o0 g0 hown hgr
        go_wp2_with fail
        refine (markText_any _ _ (by omega) (by omega)).mono ?_
        rintro e v1 ⟨rfl, hb1⟩
        have o1 := Own.below (HS0.out) hb1
        have g1 := keepG (HG0.out) hb1 (HG0.out).size
        have c1_1 := o1.cell rfl (j := j * 4 + 1) (by omega)
        have f1_1 := o1.frozen rfl (j * 4 + 1)
        have c1_2 := o1.cell rfl (j := j * 4 + 2) (by omega)
        have f1_2 := o1.frozen rfl (j * 4 + 2)
        have c1_3 := o1.cell rfl (j := j * 4 + 3) (by omega)
        have f1_3 := o1.frozen rfl (j * 4 + 3)
        have s1 := (o1).set rfl (j := j * 4 + 1) (Value.string (mtext (k + (j : Int) * 4 + 1)))
        have HS1 := Lib.hid (s1.1)
        have HG1 := Lib.hid ((g1).trans s1.2)
        clear s1 o1 g1
        go_wp2_with fail
        refine (markText_any _ _ (by omega) (by omega)).mono ?_
        rintro e v2 ⟨rfl, hb2⟩
        have o2 := Own.below (HS1.out) hb2
        have g2 := keepG (HG1.out) hb2 (HG1.out).size
        have c2_2 := o2.cell rfl (j := j * 4 + 2) (by omega)
        have f2_2 := o2.frozen rfl (j * 4 + 2)
        have c2_3 := o2.cell rfl (j := j * 4 + 3) (by omega)
        have f2_3 := o2.frozen rfl (j * 4 + 3)
        have s2 := (o2).set rfl (j := j * 4 + 2) (Value.string (mtext (k + (j : Int) * 4 + 1 + 1)))
        have HS2 := Lib.hid (s2.1)
        have HG2 := Lib.hid ((g2).trans s2.2)
        clear s2 o2 g2
        go_wp2_with fail
        refine (markText_any _ _ (by omega) (by omega)).mono ?_
        rintro e v3 ⟨rfl, hb3⟩
        have o3 := Own.below (HS2.out) hb3
        have g3 := keepG (HG2.out) hb3 (HG2.out).size
        have c3_3 := o3.cell rfl (j := j * 4 + 3) (by omega)
        have f3_3 := o3.frozen rfl (j * 4 + 3)
        have s3 := (o3).set rfl (j := j * 4 + 3) (Value.string (mtext (k + (j : Int) * 4 + 1 + 1 + 1)))
        have HS3 := Lib.hid (s3.1)
        have HG3 := Lib.hid ((g3).trans s3.2)
        clear s3 o3 g3
        have HS := HS3
        have HG := HG3
        clear HS3 HG3
        go_wp2_with fail
        go_roundw
        case rel => exact ⟨j + 1, by omega, by go_num, by go_num, Own.congr HS.out (fun x _ => mark_cells_4 j x _ _ _ _ (mkMove_0 k j) (mkMove_1 k j) (mkMove_2 k j) (mkMove_3 k j)), HG.out⟩
        case measure => simp [intOf]; omega
    · obtain rfl : j = n := by omega
      go_wp2_with fail
      go_ret
      exact ⟨rfl, Own.congr hown (fun x hx => by rw [if_pos hx]), hgr⟩
theorem heldMoveS_any (B : Nat) (A : Option Addr) (n cap : Nat) (k : Int) (w : World) (h : Rd w B 4 A n (mkMove k)) (hB : B ≤ w.heap.size) (hn : n ≤ 1048576) (hk0 : 0 ≤ k) (hk : k ≤ 33554432) :
    Calls Try.prog 32 #[.slice A n cap, .int .i64 k] w fun e w' => e = .returned (.int .i64 (k + (n : Int) * 4)) ∧ Below w.heap.size w w' := by
  go_enter Try.func32, Try.ntmps32
  go_wp2_with fail
  go_loopw [1, 5] (fun q i wr => ∃ j : Nat, j ≤ n ∧ q = .int .i64 (k + (j : Int) * 4) ∧ i = .int .i64 j ∧ Below w.heap.size w wr) (fun _ i _ => n - (intOf i).toNat)
  case atStart => exact ⟨0, Nat.zero_le _, by simp, rfl, Below.refl _ _⟩
  case round =>
    obtain ⟨j, hj, rfl, rfl, hbl⟩ := hrel
    by_cases hlt : j < n
    · obtain ⟨b, off, rfl, hb, hc⟩ := (h.below (hbl.mono hB)) (by omega)
      have c0 := hc (j * 4) (by omega)
      rw [mkMove_0] at c0
      have c1 := hc (j * 4 + 1) (by omega)
      rw [mkMove_1] at c1
      rw [← Nat.add_assoc] at c1
      have c2 := hc (j * 4 + 2) (by omega)
      rw [mkMove_2] at c2
      rw [← Nat.add_assoc] at c2
      have c3 := hc (j * 4 + 3) (by omega)
      rw [mkMove_3] at c3
      rw [← Nat.add_assoc] at c3
      have hbs : b < wr.heap.size := by have := hbl.size; omega
      clear hc
      go_wp2_with fail
      have dc0_0 : (wr.drew).cell? ⟨b, off + j * 4, none⟩ = some (Value.string (mtext (k + (j : Int) * 4))) := c0
      have dc0_1 : (wr.drew).cell? ⟨b, off + j * 4 + 1, none⟩ = some (Value.string (mtext (k + (j : Int) * 4 + 1))) := c1
      have dc0_2 : (wr.drew).cell? ⟨b, off + j * 4 + 2, none⟩ = some (Value.string (mtext (k + (j : Int) * 4 + 1 + 1))) := c2
      have dc0_3 : (wr.drew).cell? ⟨b, off + j * 4 + 3, none⟩ = some (Value.string (mtext (k + (j : Int) * 4 + 1 + 1 + 1))) := c3
      have hbd0 : b < (wr.drew).heap.size := by assumption
      have hld0 := hbl.drew
      have hlz0 : w.heap.size ≤ (wr.drew).heap.size := hld0.size
      clear c0 c1 c2 c3
      go_region_held3 (fun w' => w'.cell? ⟨b, off + j * 4, none⟩ = some (Value.string (mtext (k + (j : Int) * 4)))) (first | exact dc0_0 | exact n0_0 | go_keep) (first | (go_at_call 53; refine (markText_any _ _ (by omega) (by omega)).mono ?_; rintro e v0 ⟨rfl, hb0⟩; have n0_0 := (hb0.cell hbd0).trans dc0_0; have n0_1 := (hb0.cell hbd0).trans dc0_1; have n0_2 := (hb0.cell hbd0).trans dc0_2; have n0_3 := (hb0.cell hbd0).trans dc0_3; have hbs0 : b < v0.heap.size := Nat.lt_of_lt_of_le hbd0 hb0.size; have hl0 := hld0.trans (hb0.mono hlz0)))
      go_wp2_with fail
      have dc1_1 : (v0.drew).cell? ⟨b, off + j * 4 + 1, none⟩ = some (Value.string (mtext (k + (j : Int) * 4 + 1))) := n0_1
      have dc1_2 : (v0.drew).cell? ⟨b, off + j * 4 + 2, none⟩ = some (Value.string (mtext (k + (j : Int) * 4 + 1 + 1))) := n0_2
      have dc1_3 : (v0.drew).cell? ⟨b, off + j * 4 + 3, none⟩ = some (Value.string (mtext (k + (j : Int) * 4 + 1 + 1 + 1))) := n0_3
      have hbd1 : b < (v0.drew).heap.size := by assumption
      have hld1 := hl0.drew
      have hlz1 : w.heap.size ≤ (v0.drew).heap.size := hld1.size
      clear n0_1 n0_2 n0_3
      go_region_held3 (fun w' => w'.cell? ⟨b, off + j * 4 + 1, none⟩ = some (Value.string (mtext (k + (j : Int) * 4 + 1)))) (first | exact dc1_1 | exact n1_1 | go_keep) (first | (go_at_call 53; refine (markText_any _ _ (by omega) (by omega)).mono ?_; rintro e v1 ⟨rfl, hb1⟩; have n1_1 := (hb1.cell hbd1).trans dc1_1; have n1_2 := (hb1.cell hbd1).trans dc1_2; have n1_3 := (hb1.cell hbd1).trans dc1_3; have hbs1 : b < v1.heap.size := Nat.lt_of_lt_of_le hbd1 hb1.size; have hl1 := hld1.trans (hb1.mono hlz1)))
      go_wp2_with fail
      have dc2_2 : (v1.drew).cell? ⟨b, off + j * 4 + 2, none⟩ = some (Value.string (mtext (k + (j : Int) * 4 + 1 + 1))) := n1_2
      have dc2_3 : (v1.drew).cell? ⟨b, off + j * 4 + 3, none⟩ = some (Value.string (mtext (k + (j : Int) * 4 + 1 + 1 + 1))) := n1_3
      have hbd2 : b < (v1.drew).heap.size := by assumption
      have hld2 := hl1.drew
      have hlz2 : w.heap.size ≤ (v1.drew).heap.size := hld2.size
      clear n1_2 n1_3
      go_region_held3 (fun w' => w'.cell? ⟨b, off + j * 4 + 2, none⟩ = some (Value.string (mtext (k + (j : Int) * 4 + 1 + 1)))) (first | exact dc2_2 | exact n2_2 | go_keep) (first | (go_at_call 53; refine (markText_any _ _ (by omega) (by omega)).mono ?_; rintro e v2 ⟨rfl, hb2⟩; have n2_2 := (hb2.cell hbd2).trans dc2_2; have n2_3 := (hb2.cell hbd2).trans dc2_3; have hbs2 : b < v2.heap.size := Nat.lt_of_lt_of_le hbd2 hb2.size; have hl2 := hld2.trans (hb2.mono hlz2)))
      go_wp2_with fail
      have dc3_3 : (v2.drew).cell? ⟨b, off + j * 4 + 3, none⟩ = some (Value.string (mtext (k + (j : Int) * 4 + 1 + 1 + 1))) := n2_3
      have hbd3 : b < (v2.drew).heap.size := by assumption
      have hld3 := hl2.drew
      have hlz3 : w.heap.size ≤ (v2.drew).heap.size := hld3.size
      clear n2_3
      go_region_held3 (fun w' => w'.cell? ⟨b, off + j * 4 + 3, none⟩ = some (Value.string (mtext (k + (j : Int) * 4 + 1 + 1 + 1)))) (first | exact dc3_3 | exact n3_3 | go_keep) (first | (go_at_call 53; refine (markText_any _ _ (by omega) (by omega)).mono ?_; rintro e v3 ⟨rfl, hb3⟩; have n3_3 := (hb3.cell hbd3).trans dc3_3; have hbs3 : b < v3.heap.size := Nat.lt_of_lt_of_le hbd3 hb3.size; have hl3 := hld3.trans (hb3.mono hlz3)))
      go_wp2_with fail
      have hbl := hl3
      go_roundw
      case rel => exact ⟨j + 1, by omega, by go_num, by go_num, hbl⟩
      case measure => simp [intOf]; omega
    · obtain rfl : j = n := by omega
      go_wp2_with fail
      go_ret
      exact ⟨rfl, hbl⟩
/-- How many bytes it has. -/
def byMove (x : ElMove) : Nat := x.1.1.size + x.1.2.size + x.2.1.size + x.2.2.size
/-- How many bytes they have, and one each. -/
def totMove (xs : List ElMove) : Nat := xs.length + (xs.map byMove).sum
/-- Those of the first k. -/
def byToMove (xs : List ElMove) (k : Nat) : Nat := ((xs.take k).map byMove).sum
theorem sum_leMove (xs : List ElMove) (k : Nat) : byToMove xs k ≤ (xs.map byMove).sum := by
  unfold byToMove
  conv => rhs; rw [← List.take_append_drop k xs, List.map_append, List.sum_append]
  omega
theorem sum_stepMove {xs : List ElMove} {k : Nat} (h : k < xs.length) : byToMove xs (k + 1) = byToMove xs k + byMove (gt xs k) := by
  unfold byToMove
  rw [take_snoc h, List.map_append, List.sum_append]; simp
theorem byTo_zeroMove (xs : List ElMove) : byToMove xs 0 = 0 := rfl
theorem byTo_allMove (xs : List ElMove) : byToMove xs xs.length = (xs.map byMove).sum := by unfold byToMove; rw [List.take_length]
theorem szMove_any (a : ByteArray) (b : ByteArray) (c : ByteArray) (d : ByteArray) (left : Int) (w : World) (h0 : 0 ≤ left) (h1 : left ≤ 1048576) (hs0 : a.size ≤ maxLen) (hs1 : b.size ≤ maxLen) (hs2 : c.size ≤ maxLen) (hs3 : d.size ≤ maxLen) :
    Calls Try.prog 29 #[.agg #[.string a, .string b, .string c, .string d], .int .i64 left] w fun e w' => e = .returned (.int .i64 (szL left (a.size + b.size + c.size + d.size))) ∧ Below w.heap.size w w' := by
  unfold maxLen at hs0 hs1 hs2 hs3
  by_cases hz0 : left - (a.size : Int) < 0
  · have hd0 : decide (left - (a.size : Int) < 0) = true := by simp [hz0]
    have HZ := Lib.hid (szL_no (left := left) (n := a.size + b.size + c.size + d.size) (by omega))
    go_enter Try.func29, Try.ntmps29
    go_wp2
    go_ret
    exact ⟨ret_int HZ.out.symm, by repeat (first | exact Below.refl _ _ | refine Below.alloc ?_ (by simp; try omega) _)⟩
  · have hd0 : decide (left - (a.size : Int) < 0) = false := by simp; omega
    by_cases hz1 : left - (a.size : Int) - (b.size : Int) < 0
    · have hd1 : decide (left - (a.size : Int) - (b.size : Int) < 0) = true := by simp [hz1]
      have HZ := Lib.hid (szL_no (left := left) (n := a.size + b.size + c.size + d.size) (by omega))
      go_enter Try.func29, Try.ntmps29
      go_wp2
      go_ret
      exact ⟨ret_int HZ.out.symm, by repeat (first | exact Below.refl _ _ | refine Below.alloc ?_ (by simp; try omega) _)⟩
    · have hd1 : decide (left - (a.size : Int) - (b.size : Int) < 0) = false := by simp; omega
      by_cases hz2 : left - (a.size : Int) - (b.size : Int) - (c.size : Int) < 0
      · have hd2 : decide (left - (a.size : Int) - (b.size : Int) - (c.size : Int) < 0) = true := by simp [hz2]
        have HZ := Lib.hid (szL_no (left := left) (n := a.size + b.size + c.size + d.size) (by omega))
        go_enter Try.func29, Try.ntmps29
        go_wp2
        go_ret
        exact ⟨ret_int HZ.out.symm, by repeat (first | exact Below.refl _ _ | refine Below.alloc ?_ (by simp; try omega) _)⟩
      · have hd2 : decide (left - (a.size : Int) - (b.size : Int) - (c.size : Int) < 0) = false := by simp; omega
        by_cases hz3 : left - (a.size : Int) - (b.size : Int) - (c.size : Int) - (d.size : Int) < 0
        · have hd3 : decide (left - (a.size : Int) - (b.size : Int) - (c.size : Int) - (d.size : Int) < 0) = true := by simp [hz3]
          have HZ := Lib.hid (szL_no (left := left) (n := a.size + b.size + c.size + d.size) (by omega))
          go_enter Try.func29, Try.ntmps29
          go_wp2
          go_ret
          exact ⟨ret_int HZ.out.symm, by repeat (first | exact Below.refl _ _ | refine Below.alloc ?_ (by simp; try omega) _)⟩
        · have hd3 : decide (left - (a.size : Int) - (b.size : Int) - (c.size : Int) - (d.size : Int) < 0) = false := by simp; omega
          have HZ := Lib.hid (show left - (a.size : Int) - (b.size : Int) - (c.size : Int) - (d.size : Int) = szL left (a.size + b.size + c.size + d.size) by have := szL_yes (left := left) (n := a.size + b.size + c.size + d.size) (by omega); omega)
          go_enter Try.func29, Try.ntmps29
          go_wp2
          go_ret
          exact ⟨ret_int HZ.out, by repeat (first | exact Below.refl _ _ | refine Below.alloc ?_ (by simp; try omega) _)⟩
set_option maxHeartbeats 800000 in
theorem szMoveS_any (A : Option Addr) (cap B : Nat) (xs : List ElMove) (left : Int) (w : World) (h : RdE 4 encMove w B A xs) (hB : B ≤ w.heap.size) (hl : xs.length ≤ 9223372036854775807) (hsz : ∀ k, k < xs.length → (gt xs k).1.1.size ≤ maxLen ∧ (gt xs k).1.2.size ≤ maxLen ∧ (gt xs k).2.1.size ≤ maxLen ∧ (gt xs k).2.2.size ≤ maxLen) (h0 : 0 ≤ left) (h1 : left ≤ 1048576) :
    Calls Try.prog 15 #[.slice A xs.length cap, .int .i64 left] w fun e w' => e = .returned (.int .i64 (szL left (totMove xs))) ∧ Below w.heap.size w w' := by
  by_cases hlt : left - (xs.length : Int) < 0
  · have hd : decide (left - (xs.length : Int) < 0) = true := by simp [hlt]
    have HZ := Lib.hid (szL_no (left := left) (n := totMove xs) (by unfold totMove; omega))
    go_enter Try.func15, Try.ntmps15
    go_wp2_with fail
    go_ret
    exact ⟨ret_int HZ.out.symm, Below.refl _ _⟩
  · have hd : decide (left - (xs.length : Int) < 0) = false := by simp; omega
    have HD := Lib.hid hsz
    clear hsz
    go_enter Try.func15, Try.ntmps15
    go_wp2_with fail
    go_loopw [1, 5] (fun q i wr => ∃ k : Nat, k ≤ xs.length ∧ i = .int .i64 k ∧ q = .int .i64 (left - xs.length - byToMove xs k) ∧ 0 ≤ left - xs.length - (byToMove xs k : Nat) ∧ Below w.heap.size w wr) (fun _ i _ => xs.length - (intOf i).toNat)
    case atStart => exact ⟨0, Nat.zero_le _, rfl, by rw [byTo_zeroMove]; simp, by rw [byTo_zeroMove]; simp; omega, Below.refl _ _⟩
    case round =>
      obtain ⟨k, hk, rfl, rfl, hq, hbl⟩ := hrel
      have hle := sum_leMove xs k
      by_cases hlt2 : k < xs.length
      · have hst := sum_stepMove hlt2
        have hle2 := sum_leMove xs (k + 1)
        obtain ⟨z0, z1, z2, z3⟩ := HD.out k hlt2
        obtain ⟨b, off, rfl, hb, hc⟩ := (h.below (hbl.mono hB)).at_ (by omega)
        have c0 : wr.cell? ⟨b, off + k * 4, none⟩ = some (Value.string ((gt xs k).1.1)) := hc k 0 (by omega) (by omega)
        have c1 : wr.cell? ⟨b, off + k * 4 + 1, none⟩ = some (Value.string ((gt xs k).1.2)) := hc k 1 (by omega) (by omega)
        have c2 : wr.cell? ⟨b, off + k * 4 + 2, none⟩ = some (Value.string ((gt xs k).2.1)) := hc k 2 (by omega) (by omega)
        have c3 : wr.cell? ⟨b, off + k * 4 + 3, none⟩ = some (Value.string ((gt xs k).2.2)) := hc k 3 (by omega) (by omega)
        clear hc
        have hby : byMove (gt xs k) = (gt xs k).1.1.size + (gt xs k).1.2.size + (gt xs k).2.1.size + (gt xs k).2.2.size := rfl
        by_cases hneg : left - xs.length - byToMove xs k - (byMove (gt xs k) : Int) < 0
        · have HZ := Lib.hid (szL_no (left := left) (n := totMove xs) (by unfold totMove; omega))
          have HN := Lib.hid (szL_no hneg)
          rw [hby] at HN
          have HC : Hid (∀ W, Calls Try.prog 29 #[.agg #[.string (gt xs k).1.1, .string (gt xs k).1.2, .string (gt xs k).2.1, .string (gt xs k).2.2], .int .i64 (left - xs.length - byToMove xs k)] W fun e w' => e = .returned (.int .i64 (-1)) ∧ Below W.heap.size W w') := Lib.hid (fun W => by
            have := szMove_any (gt xs k).1.1 (gt xs k).1.2 (gt xs k).2.1 (gt xs k).2.2 (left - xs.length - byToMove xs k) W (by omega) (by omega) z0 z1 z2 z3
            rw [HN.out] at this
            exact this)
          clear hst hby
          go_wp2_with (go_at_call 29; refine (HC.out _).mono ?_; rintro e w1 ⟨rfl, hb1⟩)
          go_ret
          exact ⟨ret_int HZ.out.symm, hbl.trans (hb1.mono hbl.size)⟩
        · have HN := Lib.hid (szL_yes (left := left - xs.length - byToMove xs k) (n := byMove (gt xs k)) (by omega))
          rw [hby] at HN
          have HST := Lib.hid hst
          have hd3 : decide (left - xs.length - byToMove xs k - ((((gt xs k).1.1.size + (gt xs k).1.2.size + (gt xs k).2.1.size + (gt xs k).2.2.size : Nat)) : Int) < 0) = false := by simp; omega
          rw [hby] at hneg
          have HC : Hid (∀ W, Calls Try.prog 29 #[.agg #[.string (gt xs k).1.1, .string (gt xs k).1.2, .string (gt xs k).2.1, .string (gt xs k).2.2], .int .i64 (left - xs.length - byToMove xs k)] W fun e w' => e = .returned (.int .i64 (left - xs.length - byToMove xs k - ((((gt xs k).1.1.size + (gt xs k).1.2.size + (gt xs k).2.1.size + (gt xs k).2.2.size : Nat)) : Int))) ∧ Below W.heap.size W w') := Lib.hid (fun W => by
            have := szMove_any (gt xs k).1.1 (gt xs k).1.2 (gt xs k).2.1 (gt xs k).2.2 (left - xs.length - byToMove xs k) W (by omega) (by omega) z0 z1 z2 z3
            rw [HN.out] at this
            exact this)
          clear hst hby
          go_wp2_with (go_at_call 29; refine (HC.out _).mono ?_; rintro e w1 ⟨rfl, hb1⟩)
          go_roundw
          case rel => exact ⟨k + 1, by omega, by go_num, by rw [HST.out]; unfold byMove; go_num, by rw [HST.out]; unfold byMove; omega, hbl.trans (hb1.mono hbl.size)⟩
          case measure => simp [intOf]; omega
      · obtain rfl : k = xs.length := by omega
        rw [byTo_allMove] at hq ⊢
        have HZ := Lib.hid (show left - xs.length - ((xs.map byMove).sum : Nat) = szL left (totMove xs) by have := szL_yes (left := left) (n := totMove xs) (by unfold totMove; omega); unfold totMove at this ⊢; omega)
        go_wp2_with fail
        go_ret
        exact ⟨ret_int HZ.out, hbl⟩
end Go.Proofs.Ytdcppbaahoimfaa
