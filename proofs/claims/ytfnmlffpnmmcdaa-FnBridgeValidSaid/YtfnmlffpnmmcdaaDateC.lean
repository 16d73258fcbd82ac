/- Dates: impl's texts. -/
import Derived.Test.YtfnmlffpnmmcdaaDateA
import Derived.Test.YtfnmlffpnmmcdaaOwn
namespace Go.Proofs.Ytfnmlffpnmmcdaa
open Go.RowKit
theorem info_u8d : (Try.prog.info? 5).map (fun i => (i.zero, i.size, i.bytes)) = some (some (.int .u8 0), 1, 1) := by kernel_rfl
def dgD (n j : Nat) : Int := 48 + ((n / 10 ^ j % 10 : Nat) : Int)
def pdF (n k c : Nat) (x : Nat) : Value := .int .u8 (if k ≤ x + c then dgD n (k - 1 - x) else 0)
def pdL (n k : Nat) : List Int := (List.range k).map (fun x => dgD n (k - 1 - x))
/-- A number with zeros ahead. -/
def padS (n k : Nat) : ByteArray := (pdL n k).foldl (fun r x => r.push (UInt8.ofNat x.toNat)) ByteArray.empty
theorem fold_size (l : List Int) : ∀ s : ByteArray, (l.foldl (fun r x => r.push (UInt8.ofNat x.toNat)) s).size = s.size + l.length := by
  induction l with
  | nil => intro s; simp
  | cons x l ih => intro s; rw [List.foldl_cons, ih, ByteArray.size_push, List.length_cons]; omega
theorem padS_size (n k : Nat) : (padS n k).size = k := by unfold padS; rw [fold_size]; simp [pdL]
theorem convP (W : World) (b n k : Nat) (h : ∀ j, j < k → W.cell? ⟨b, j, none⟩ = some (pdF n k k j)) : (convert 22 9 (.slice (some ⟨b, 0, none⟩) k k)).run Try.prog W = .ok (.string (padS n k)) W := by
  rw [run_convert_bytes_string _ 22 9 5 _ _ _ Try.underlying22 Try.underlying5 Try.underlying9]
  have hl := run_loadCells_list (P := Try.prog) (w := W) ⟨b, 0, none⟩ ((pdL n k).map (Value.int .u8)) (fun j v hj => by
    have hj1 : j < k := by
      rcases Nat.lt_or_ge j k with q | q
      · exact q
      · rw [List.getElem?_eq_none (by simpa [pdL] using q)] at hj; cases hj
    rw [List.getElem?_map, pdL, List.getElem?_map, List.getElem?_range hj1] at hj
    simp only [Option.map_some, Option.some.injEq] at hj
    subst hj
    have := h j hj1
    have e : (⟨b, 0, none⟩ : Addr).add j = ⟨b, 0 + j, none⟩ := by unfold Addr.add; split <;> simp_all
    rw [e, Nat.zero_add, this, pdF, if_pos (by omega)])
  rw [List.length_map, show (pdL n k).length = k by simp [pdL]] at hl
  rw [run_bytesToString W ⟨b, 0, none⟩ k k (pdL n k) hl]
  rfl
theorem pdF_next {n k c x : Nat} (hc : c < k) (hx : x < k) : pdF n k (c + 1) x = if x = k - 1 - c then .int .u8 (dgD n c) else pdF n k c x := by
  unfold pdF
  split
  · next h =>
    split
    · next e => rw [show k - 1 - x = c by omega]
    · next e => rw [if_pos (by omega)]
  · next h => rw [if_neg (by omega), if_neg (by omega)]
set_option maxHeartbeats 800000 in
theorem padded_any (n k : Nat) (w : World) (hk : 1 ≤ k) (hk4 : k ≤ 4) (hn : n ≤ 1000000) : Calls Try.prog 58 #[.int .i64 (n : Int), .int .i64 (k : Int)] w fun e w' => e = .returned (.string (padS n k)) ∧ Below w.heap.size w w' := by
  have hmk := mk_run (P := Try.prog) 22 5 (.int .u8 0) 1 1 Try.underlying22 info_u8d k (by omega) (by omega)
  simp only [Nat.mul_one] at hmk
  have hst : Own (w.alloc (.cells (madeCells #[.int .u8 0] k) 5)) w.heap.size 5 1 (some ⟨w.heap.size, 0, none⟩) k k (pdF n k 0) :=
    Own.lit w 5 1 k _ _ (by simp only [maxLen]; omega) (by rw [toList_madeCells_one, Nat.mul_one]; apply List.ext_getElem <;> simp [pdF] <;> omega)
  have hbl0 : Below w.heap.size w (w.alloc (.cells (madeCells #[.int .u8 0] k) 5)) := (Below.refl _ _).alloc (Nat.le_refl _) _
  go_enter Try.func58, Try.ntmps58
  go_wp2_with fail
  go_loopw [0, 6] (fun nv i wr => ∃ c : Nat, c ≤ k ∧ nv = .int .i64 ((n / 10 ^ c : Nat) : Int) ∧ i = .int .i64 ((k : Int) - 1 - (c : Int)) ∧ Own wr w.heap.size 5 1 (some ⟨w.heap.size, 0, none⟩) k k (pdF n k c) ∧ Below w.heap.size w wr) (fun _ i _ => (intOf i + 1).toNat)
  case atStart => exact ⟨0, by omega, by simp, by simp, hst, hbl0⟩
  case round =>
    clear hst hbl0 hmk
    obtain ⟨c, hc, rfl, rfl, hin, hbl⟩ := hrel
    have hsw := hbl.size
    by_cases hlt : c < k
    · obtain ⟨j, hj⟩ : ∃ j : Nat, (k : Int) - 1 - (c : Int) = (j : Int) := ⟨k - 1 - c, by omega⟩
      have hm : n / 10 ^ c ≤ 1000000 := Nat.le_trans (Nat.div_le_self _ _) hn
      have hnx : n / 10 ^ (c + 1) = n / 10 ^ c / 10 := by rw [Nat.pow_succ, Nat.div_div_eq_div_mul]
      have hdg : dgD n c = 48 + ((n / 10 ^ c : Nat) : Int) % 10 := by unfold dgD; omega
      have HN := Lib.hid hnx
      have HD := Lib.hid hdg
      clear hnx hdg
      rw [hj]
      have hjk : j < k := by omega
      have hcv := hin.cell rfl (j := j) (by omega)
      have hfv := hin.frozen rfl j
      have HJ := Lib.hid (show j = k - 1 - c by omega)
      generalize hmm : n / 10 ^ c = m at *
      have HMM := Lib.hid hmm
      clear hmm
      have hst' := hin.set rfl (j := j) (.int .u8 (48 + (m : Int) % 10))
      have HS := Lib.hid hst'
      have hd0 : (0 : Int) ≤ (j : Int) := by omega
      clear hst' hin
      go_wp2_with fail
      go_roundw
      case rel => exact ⟨c + 1, by omega, by rw [HN.out]; rfl, by congr 1; have := HJ.out; omega, Own.congr HS.out.1 (fun x hx => by rw [pdF_next hlt (by omega), HD.out, HJ.out]), hbl.trans (grown_below HS.out.2 (fun b hb => by simp [blk] at hb; omega) hbl.size)⟩
      case measure => first | (simp [intOf]; done) | (simp [intOf]; omega)
    · obtain rfl : c = k := by omega
      rw [show (c : Int) - 1 - (c : Int) = -1 by omega]
      have hcv := convP wr w.heap.size n c (fun j hj => hin.cell rfl (j := j) (by omega))
      go_wp2_with fail
      go_ret
      exact ⟨rfl, hbl⟩
end Go.Proofs.Ytfnmlffpnmmcdaa
