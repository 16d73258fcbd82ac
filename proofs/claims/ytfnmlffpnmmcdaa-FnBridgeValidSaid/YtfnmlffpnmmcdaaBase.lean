/- Words of our own for memory: what a slice reads as, cell by cell, nil let in. -/
import Derived.Test.YtfnmlffpnmmcdaaRows
import Derived.Test.YtfnmlffpnmmcdaaPostsPlain
import Derived.WalkKit
import Derived.WalkSpells
import Derived.WalkLawsBesides
import Derived.BigQuiet
import Derived.Deep.QuietTactic
import Derived.Lib.Hide
import Derived.Maps.AppendAt
import Derived.Deep.AppendLies
namespace Go.Proofs.Ytfnmlffpnmmcdaa
open Go.RowKit

/-- The slice value with address A and n elements of sz cells, below block B, holds f. -/
def Rd (w : World) (B sz : Nat) (A : Option Addr) (n : Nat) (f : Nat → Value) : Prop :=
  0 < n → ∃ b off, A = some ⟨b, off, none⟩ ∧ b < B ∧ ∀ j, j < n * sz → w.cell? ⟨b, off + j, none⟩ = some (f j)

section
variable {w w' : World} {B B' sz n : Nat} {A : Option Addr} {f : Nat → Value}
theorem Rd.keep (h : Rd w B sz A n f) (hk : ∀ p : Addr, p.block < B → w'.cell? p = w.cell? p) : Rd w' B sz A n f := fun hn => by
  obtain ⟨b, off, e, hb, hc⟩ := h hn
  exact ⟨b, off, e, hb, fun j hj => (hk _ hb).trans (hc j hj)⟩
theorem Rd.more (h : Rd w B sz A n f) (hB : B ≤ B') : Rd w B' sz A n f := fun hn => by
  obtain ⟨b, off, e, hb, hc⟩ := h hn
  exact ⟨b, off, e, by omega, hc⟩
theorem Rd.below (h : Rd w B sz A n f) (hb : Below B w w') : Rd w' B sz A n f := h.keep fun _ hp => hb.cell hp
theorem Rd.drewN (h : Rd w B sz A n f) (k : Nat) : Rd (w.drewN k) B sz A n f := h
end

/-- A slice of integers. -/
def RdI (w : World) (B : Nat) (A : Option Addr) (xs : List Int) : Prop := Rd w B 1 A xs.length fun j => .int .i64 (PP.at_ xs j)

section
variable {w w' : World} {B B' : Nat} {A : Option Addr} {xs : List Int}
theorem RdI.at_ (h : RdI w B A xs) (hn : 0 < xs.length) : ∃ b off, A = some ⟨b, off, none⟩ ∧ b < B ∧ ∀ j, j < xs.length → w.cell? ⟨b, off + j, none⟩ = some (.int .i64 (PP.at_ xs j)) := by
  obtain ⟨b, off, e, hb, hc⟩ := h hn
  exact ⟨b, off, e, hb, fun j hj => hc j (by omega)⟩
theorem RdI.below (h : RdI w B A xs) (hb : Below B w w') : RdI w' B A xs := Rd.below h hb
theorem RdI.more (h : RdI w B A xs) (hB : B ≤ B') : RdI w B' A xs := Rd.more h hB
theorem RdI.alloc (h : RdI w B A xs) (hB : B ≤ w.heap.size) (o : Obj) : RdI (w.alloc o) B A xs := h.below ((Below.refl _ _).alloc hB o)
theorem RdI.nil : RdI w B A [] := fun h => absurd h (by simp)
end
theorem bne_self (b : Bool) : (b != b) = false := by cases b <;> rfl
theorem ret_bool {a b : Bool} (h : a = b) : Ending.returned (.bool a) = .returned (.bool b) := by rw [h]
theorem ret_int {k : IntKind} {a b : Int} (h : a = b) : Ending.returned (.int k a) = .returned (.int k b) := by rw [h]

/-! ### A row that a loop fills -/
/-- tot cells: the first k hold f, the rest the made ones. -/
def cpC (z : Array Value) (f : Nat → Value) (tot k : Nat) : Array Value := (Array.range tot).map fun j => if j < k then f j else z[j % z.size]!
theorem cpC_size (z : Array Value) (f : Nat → Value) (tot k : Nat) : (cpC z f tot k).size = tot := by simp [cpC]
theorem cpC_zero (z : Array Value) (f : Nat → Value) (tot : Nat) : cpC z f tot 0 = madeCells z tot := by simp [cpC, madeCells]
theorem cpC_get (z : Array Value) (f : Nat → Value) {tot k j : Nat} (hj : j < tot) : (cpC z f tot k)[j]? = some (if j < k then f j else z[j % z.size]!) := by
  simp [cpC, hj]
theorem cpC_set (z : Array Value) (f : Nat → Value) (tot k : Nat) (hk : k < tot) : (cpC z f tot k).setIfInBounds k (f k) = cpC z f tot (k + 1) := by
  apply Array.ext
  · simp [cpC]
  · intro j h1 h2
    simp only [Array.size_setIfInBounds, cpC_size] at h1
    by_cases hjk : j = k
    · subst hjk; simp [cpC]
    · rw [Array.getElem_setIfInBounds_ne (by simpa [cpC] using h1) (Ne.symm hjk)]
      simp only [cpC, Array.getElem_map, Array.getElem_range]
      by_cases h : j < k
      · rw [if_pos h, if_pos (by omega)]
      · rw [if_neg h, if_neg (by omega)]
/-- tot cells that hold f. -/
def rowC (f : Nat → Value) (tot : Nat) : Array Value := (Array.range tot).map f
theorem cpC_all (z : Array Value) (f : Nat → Value) (tot : Nat) : cpC z f tot tot = rowC f tot := by
  apply Array.ext
  · simp [cpC, rowC]
  · intro j h1 h2
    simp only [cpC_size] at h1
    simp [cpC, rowC, h1]
theorem rowC_size (f : Nat → Value) (tot : Nat) : (rowC f tot).size = tot := by simp [rowC]
theorem rowC_get (f : Nat → Value) {tot j : Nat} (hj : j < tot) : (rowC f tot)[j]? = some (f j) := by simp [rowC, hj]
theorem mk_run {P : Program} (t e : TypeId) (z : Value) (size bytes : Nat) (ht : P.underlying t = some (.slice e)) (hinfo : (P.info? e).map (fun i => (i.zero, i.size, i.bytes)) = some (some z, size, bytes))
    (n : Nat) (hbytes : bytes * n ≤ 281474976710656) (h63 : n ≤ 9223372036854775807) (w : World) :
    (Instr.makeSlice t (.int .i64 (n : Int)) (.int .i64 (n : Int))).run P w = .ok (.slice (some ⟨w.heap.size, 0, none⟩) n n) (w.alloc (.cells (madeCells z.cells (n * size)) e)) := by
  obtain ⟨i, hi, hz, hs, hb⟩ := info_parts hinfo
  have hb' : (i.bytes : Int) * (n : Int) ≤ 281474976710656 := by
    have h : ((i.bytes * n : Nat) : Int) ≤ 281474976710656 := by rw [hb]; omega
    rwa [Int.natCast_mul] at h
  have hr := run_make (P := P) w t e i z ht hi hz .i64 .i64 n n (by omega) (by omega) hb' (by omega)
  simp only [Int.toNat_natCast, hs] at hr
  exact hr
theorem mk_run0 {P : Program} (t e : TypeId) (z : Value) (size bytes : Nat) (ht : P.underlying t = some (.slice e)) (hinfo : (P.info? e).map (fun i => (i.zero, i.size, i.bytes)) = some (some z, size, bytes))
    (c : Int) (h0 : 0 ≤ c) (hbytes : (bytes : Int) * c ≤ 281474976710656) (h63 : c ≤ 9223372036854775807) (w : World) :
    (Instr.makeSlice t (.int .i64 0) (.int .i64 c)).run P w = .ok (.slice (some ⟨w.heap.size, 0, none⟩) 0 c.toNat) (w.alloc (.cells (madeCells z.cells (c.toNat * size)) e)) := by
  obtain ⟨i, hi, hz, hs, hb⟩ := info_parts hinfo
  have hr := run_make (P := P) w t e i z ht hi hz .i64 .i64 0 c (by omega) h0 (by rw [hb]; exact hbytes) h63
  rw [hs] at hr
  exact hr
end Go.Proofs.Ytfnmlffpnmmcdaa
