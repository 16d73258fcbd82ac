/- What marking writes: texts and truths of numbers. -/
import Derived.Test.YtfnmlffpnmmcdaaKeyed
import Derived.Laws.BytesString
import Derived.Laws.Cells
namespace Go.Proofs.Ytfnmlffpnmmcdaa
open Go.RowKit
theorem ret_str {a b : ByteArray} (h : a = b) : Ending.returned (.string a) = .returned (.string b) := by rw [h]
/-- Of what was there only one row has turned, and then nothing of it. -/
theorem keepG {a b c : World} {row : Option Nat} {B : Nat} (h : a.grownBy b row) (k : Below B b c) (hB : a.heap.size ≤ B) : a.grownBy c row :=
  ⟨k.os.trans h.os, k.tape.trans h.tape, k.output.trans h.output, Nat.le_trans h.size k.size, fun i hi hne => (k.block i (by omega)).trans (h.block i hi hne)⟩
def dgB (n : Nat) : ByteArray := ⟨#[UInt8.ofNat (48 + n % 10)]⟩
/-- The digits of n ahead of s. -/
def mloop (n : Nat) (s : ByteArray) : ByteArray := if n = 0 then s else mloop (n / 10) (dgB n ++ s)
termination_by n
decreasing_by omega
/-- markText's answer. -/
def mtext (k : Int) : ByteArray := if k ≤ 0 then ⟨#[109, 48]⟩ else ⟨#[109]⟩ ++ mloop k.toNat ByteArray.empty
theorem mtext_zero {k : Int} (h : k ≤ 0) : mtext k = ⟨#[109, 48]⟩ := if_pos h
theorem mtext_pos {k : Int} (h : ¬ k ≤ 0) : mtext k = ⟨#[109]⟩ ++ mloop k.toNat ByteArray.empty := if_neg h
theorem mloop_zero (s : ByteArray) : mloop 0 s = s := by rw [mloop]; simp
theorem mloop_step {n : Nat} (h : 0 < n) (s : ByteArray) : mloop n s = mloop (n / 10) (dgB n ++ s) := by rw [mloop, if_neg (by omega)]
def mbool (k : Int) : Bool := k % 3 == 0
/-- A text of one byte that the call made. -/
theorem conv_one (w : World) (n : Nat) (c : Int) (hc : c = 48 + (n : Int) % 10) : (convert 22 9 (.slice (some ⟨w.heap.size, 0, none⟩) 1 1)).run Try.prog (w.alloc (.cells #[.int .u8 c] 5)) = .ok (.string (dgB n)) (w.alloc (.cells #[.int .u8 c] 5)) := by
  rw [run_convert_bytes_string _ 22 9 5 _ _ _ Try.underlying22 Try.underlying5 Try.underlying9]
  rw [run_bytesToString _ _ 1 1 [c] (run_loadCells_list _ _ [.int .u8 c] (fun j v hj => by
    match j, hj with
    | 0, hj =>
      simp only [List.getElem?_cons_zero, Option.some.injEq] at hj
      subst hj
      show World.cell? _ ⟨w.heap.size, 0, none⟩ = _
      rw [World.cell?_alloc_at _ _ _ _ rfl]; rfl))]
  congr 2
  subst hc
  simp only [List.foldl_cons, List.foldl_nil, dgB]
  rw [show (48 + (n : Int) % 10).toNat = 48 + n % 10 by omega]
  rfl
end Go.Proofs.Ytfnmlffpnmmcdaa
