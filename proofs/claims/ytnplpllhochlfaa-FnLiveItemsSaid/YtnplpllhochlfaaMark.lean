/- What marking writes: texts and truths of numbers. -/
import Derived.Test.YtnplpllhochlfaaKeyed
import Derived.Laws.BytesString
import Derived.Laws.Cells
namespace Go.Proofs.Ytnplpllhochlfaa
open Go.RowKit
theorem ret_str {a b : ByteArray} (h : a = b) : Ending.returned (.string a) = .returned (.string b) := by rw [h]
/-- Of what was there only one row has turned, and then nothing of it. -/
theorem keepG {a b c : World} {row : Option Nat} {B : Nat} (h : a.grownBy b row) (k : Below B b c) (hB : a.heap.size ≤ B) : a.grownBy c row :=
  ⟨k.os.trans h.os, k.tape.trans h.tape, k.output.trans h.output, Nat.le_trans h.size k.size, fun i hi hne => (k.block i (by omega)).trans (h.block i hi hne)⟩
def dgB (n : Nat) : ByteArray := ⟨#[UInt8.ofNat (48 + n % 10)]⟩
/-- The digits of n ahead of s. -/
def mloop (n : Nat) (s : ByteArray) : ByteArray := if n = 0 then s else mloop (n / 10) (dgB n ++ s)
termination_by n
decreasing_by omega
/-- markText's answer. -/
def mtext (k : Int) : ByteArray := if k ≤ 0 then ⟨#[109, 48]⟩ else ⟨#[109]⟩ ++ mloop k.toNat ByteArray.empty
theorem mtext_zero {k : Int} (h : k ≤ 0) : mtext k = ⟨#[109, 48]⟩ := if_pos h
theorem mtext_pos {k : Int} (h : ¬ k ≤ 0) : mtext k = ⟨#[109]⟩ ++ mloop k.toNat ByteArray.empty := if_neg h
theorem mloop_zero (s : ByteArray) : mloop 0 s = s := by rw [mloop]; simp
theorem mloop_step {n : Nat} (h : 0 < n) (s : ByteArray) : mloop n s = mloop (n / 10) (dgB n ++ s) := by rw [mloop, if_neg (by omega)]
def mbool (k : Int) : Bool := k % 3 == 0
/-- A text of one byte that the call made. -/
theorem conv_one (w : World) (n : Nat) (c : Int) (hc : c = 48 + (n : Int) % 10) : (convert 22 9 (.slice (some ⟨w.heap.size, 0, none⟩) 1 1)).run Try.prog (w.alloc (.cells #[.int .u8 c] 5)) = .ok (.string (dgB n)) (w.alloc (.cells #[.int .u8 c] 5)) := by
  rw [run_convert_bytes_string _ 22 9 5 _ _ _ Try.underlying22 Try.underlying5 Try.underlying9]
  rw [run_bytesToString _ _ 1 1 [c] (run_loadCells_list _ _ [.int .u8 c] (fun j v hj => by
    match j, hj with
    | 0, hj =>
      simp only [List.getElem?_cons_zero, Option.some.injEq] at hj
      subst hj
      show World.cell? _ ⟨w.heap.size, 0, none⟩ = _
      rw [World.cell?_alloc_at _ _ _ _ rfl]; rfl))]
  congr 2
  subst hc
  simp only [List.foldl_cons, List.foldl_nil, dgB]
  rw [show (48 + (n : Int) % 10).toNat = 48 + n % 10 by omega]
  rfl
set_option maxHeartbeats 400000 in
theorem markText_any (k : Int) (w : World) (h0 : 0 ≤ k) (h1 : k ≤ 1000000000000) : Calls Try.prog 40 #[.int .i64 k] w fun e w' => e = .returned (.string (mtext k)) ∧ Below w.heap.size w w' := by
  by_cases hk : k ≤ 0
  · obtain rfl : k = 0 := by omega
    have HT := Lib.hid (mtext_zero hk)
    clear h0 h1 hk
    go_enter Try.func40, Try.ntmps40
    go_wp2
    go_ret
    exact ⟨ret_str HT.out.symm, Below.refl _ _⟩
  · have hd : decide (k ≤ 0) = false := by simp; omega
    have HT := Lib.hid (mtext_pos hk)
    obtain ⟨n0, rfl⟩ := Int.eq_ofNat_of_zero_le h0
    rw [Int.toNat_natCast] at HT
    go_enter Try.func40, Try.ntmps40
    go_wp2_with fail
    go_loopw [0, 3] (fun kk out wr => ∃ (n : Nat) (s : ByteArray), kk = .int .i64 n ∧ out = .string s ∧ n + s.size ≤ n0 ∧ Hid (mloop n s = mloop n0 ByteArray.empty) ∧ Below w.heap.size w wr) (fun kk _ _ => (intOf kk).toNat)
    case atStart => exact ⟨n0, _, rfl, rfl, by simp [ByteArray.size], Lib.hid rfl, Below.refl _ _⟩
    case round =>
      obtain ⟨n, s, rfl, rfl, hs, HM, hbl⟩ := hrel
      by_cases hn : 0 < n
      · have hd2 : decide (0 < (n : Int)) = true := by simp; omega
        have hcv := conv_one wr n _ rfl
        have hsd : (dgB n).size = 1 := rfl
        have HN := Lib.hid ((mloop_step hn s).symm.trans HM.out)
        go_wp2_with fail
        go_roundw
        case rel => exact ⟨n / 10, dgB n ++ s, by simp, rfl, by rw [ByteArray.size_append, hsd]; omega, HN, hbl.trans ((Below.refl _ _).alloc hbl.size _)⟩
        case measure => simp [intOf]; omega
      · obtain rfl : n = 0 := by omega
        go_wp2_with fail
        go_ret
        exact ⟨ret_str (by rw [HT.out, ← HM.out, mloop_zero]), hbl⟩
end Go.Proofs.Ytnplpllhochlfaa
