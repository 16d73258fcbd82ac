/- The reader of a code: its block, and what asking it does. -/
import Derived.Test.YtfnmlffpnmmcdaaOwn
namespace Go.Proofs.Ytfnmlffpnmmcdaa
open Go.RowKit
/-- Block g is a reader that has been asked at most m times. -/
def Rdr (w : World) (g m : Nat) : Prop :=
  ∃ (A : Option Addr) (n cap B : Nat) (f : Nat → Int) (p : Nat), w.heap[g]? = some (.cells #[.slice A n cap, .int .i64 p] 66 (0, 0)) ∧ n ≤ 2000 ∧ B ≤ g ∧ Rd w B 1 A n (fun j => .int .u8 (f j)) ∧ (∀ j, 0 ≤ f j ∧ f j ≤ 255) ∧ p ≤ m
theorem Rdr.more {w : World} {g m m' : Nat} (h : Rdr w g m) (hm : m ≤ m') : Rdr w g m' := by
  obtain ⟨A, n, cap, B, f, p, h1, h2, h3, h4, h5, h6⟩ := h
  exact ⟨A, n, cap, B, f, p, h1, h2, h3, h4, h5, by omega⟩
theorem Rdr.lt {w : World} {g m : Nat} (h : Rdr w g m) : g < w.heap.size := by
  obtain ⟨A, n, cap, B, f, p, h1, _⟩ := h
  exact (Array.getElem?_eq_some_iff.1 h1).1
/-- What leaves the reader and all below it alone keeps it. -/
theorem Rdr.keep {w w' : World} {g m : Nat} (h : Rdr w g m) (hb : ∀ k, k ≤ g → w'.heap[k]? = w.heap[k]?) : Rdr w' g m := by
  obtain ⟨A, n, cap, B, f, p, h1, h2, h3, h4, h5, h6⟩ := h
  exact ⟨A, n, cap, B, f, p, by rw [hb g (Nat.le_refl _)]; exact h1, h2, h3, h4.keep (fun q hq => World.cell?_of_block (hb _ (by omega))), h5, h6⟩
theorem Rdr.below {w w' : World} {g m B : Nat} (h : Rdr w g m) (hb : Below B w w') (hg : g < B) : Rdr w' g m := h.keep fun k hk => hb.block k (by omega)
theorem Rdr.drewN {w : World} {g m : Nat} (h : Rdr w g m) (k : Nat) : Rdr (w.drewN k) g m := h
theorem Rdr.grown {w w' : World} {g m : Nat} {row : Option Nat} (h : Rdr w g m) (hg : w.grownBy w' row) (hr : ∀ k, row = some k → g < k) : Rdr w' g m :=
  h.keep fun k hk => hg.block k (by have := h.lt; omega) (fun e => by have := hr k e.symm; omega)
theorem Rdr.alloc {w : World} {g m : Nat} (h : Rdr w g m) (o : Obj) : Rdr (w.alloc o) g m := h.below ((Below.refl _ _).alloc (Nat.le_refl _) o) h.lt
/-- Once asked. -/
theorem Rdr.asked {w : World} {g m n cap B p : Nat} {A : Option Addr} {f : Nat → Int} (h1 : w.heap[g]? = some (.cells #[.slice A n cap, .int .i64 p] 66 (0, 0))) (h2 : n ≤ 2000) (h3 : B ≤ g) (h4 : Rd w B 1 A n (fun j => .int .u8 (f j))) (h5 : ∀ j, 0 ≤ f j ∧ f j ≤ 255) (h6 : p ≤ m) (k : Nat) :
    Rdr ((w.setCell ⟨g, 1, none⟩ (.int .i64 ((p : Int) + 1))).drewN k) g (m + 1) ∧ w.grownBy ((w.setCell ⟨g, 1, none⟩ (.int .i64 ((p : Int) + 1))).drewN k) (some g) := by
  refine ⟨⟨A, n, cap, B, f, p + 1, ?_, h2, h3, ?_, h5, by omega⟩, ?_⟩
  · show (w.setCell ⟨g, 1, none⟩ (.int .i64 ((p : Int) + 1))).heap[g]? = _
    simp only [World.setCell, Array.getElem?_modify, if_true, h1, Option.map_some]
    rfl
  · exact Rd.keep h4 (fun q hq => World.cell?_of_block (Below.heap_setCell _ _ _ _ (by show q.block ≠ g; omega)))
  · exact ⟨rfl, rfl, rfl, by simp [World.drewN, World.setCell], fun i _ hi => Below.heap_setCell _ _ _ _ (fun e => hi (by rw [e]))⟩
theorem ofInt_i64 (a : Nat) (ha : a < 9223372036854775808) : (BitVec.ofInt 64 (a : Int)).toNat = a := by
  rw [BitVec.ofInt_natCast, BitVec.toNat_ofNat]; exact Nat.mod_eq_of_lt (by omega)
theorem xor_nat (a b : Nat) (ha : a < 9223372036854775808) (hb : b < 9223372036854775808) : bits .xor .i64 (a : Int) (b : Int) = ((a ^^^ b : Nat) : Int) := by
  have hx : a ^^^ b < 2 ^ 63 := Nat.xor_lt_two_pow (by omega) (by omega)
  show IntKind.i64.wrap ((BitVec.ofInt 64 (a : Int) ^^^ BitVec.ofInt 64 (b : Int)).toNat : Int) = _
  rw [BitVec.toNat_xor, ofInt_i64 a ha, ofInt_i64 b hb, IntKind.wrap_i64]
  omega
/-- Of what was there only one row has turned, then what is new has turned, too. -/
theorem only_own {a b c : World} {row row' : Option Nat} (h : a.grownBy b row) (k : b.grownBy c row') (hr : ∀ i, row' = some i → a.heap.size ≤ i) : a.grownBy c row :=
  ⟨k.os.trans h.os, k.tape.trans h.tape, k.output.trans h.output, Nat.le_trans h.size k.size, fun i hi hne => (k.block i (Nat.lt_of_lt_of_le hi h.size) (fun e => by have := hr i e.symm; omega)).trans (h.block i hi hne)⟩
theorem only_below {a b c : World} {row : Option Nat} {B : Nat} (h : a.grownBy b row) (k : Below B b c) (hB : a.heap.size ≤ B) : a.grownBy c row :=
  ⟨k.os.trans h.os, k.tape.trans h.tape, k.output.trans h.output, Nat.le_trans h.size k.size, fun i hi hne => (k.block i (by omega)).trans (h.block i hi hne)⟩
theorem only_alloc (a : World) (row : Option Nat) {b : World} (h : a.grownBy b row) (o : Obj) : a.grownBy (b.alloc o) row := only_below h ((Below.refl _ _).alloc (Nat.le_refl _) o) h.size
/-- A table of the call's own, in its new block, read behind the reader's pick. -/
theorem tab_cell {w w1 : World} {g : Nat} {cs : Array Value} {e : TypeId} (hg : (w.alloc (.cells cs e)).grownBy w1 (some g)) (h : g < w.heap.size) (i : Nat) : w1.cell? ⟨w.heap.size, i, none⟩ = cs[i]? := by
  rw [World.cell?_of_block (w := w.alloc (.cells cs e)) (hg.block w.heap.size (by simp) (fun e => by injection e; omega)), World.cell?_alloc_at _ _ _ _ rfl]
/-- What pick leaves. -/
def Picked (g m : Nat) (n : Int) (w : World) (e : Ending) (w' : World) : Prop := ∃ x : Int, e = .returned (.int .i64 x) ∧ 0 ≤ x ∧ (x < n ∨ x = 0) ∧ Rdr w' g (m + 1) ∧ w.grownBy w' (some g)
theorem pick_any (g m : Nat) (n : Int) (w : World) (h : Rdr w g m) (hm : m ≤ 1048576) :
    Calls Try.prog 35 #[.pointer (some ⟨g, 0, none⟩), .int .i64 n] w (Picked g m n w) := by
  obtain ⟨A, l, cap, B, f, p, h1, h2, h3, h4, h5, h6⟩ := h
  have hask := Lib.hid (Rdr.asked h1 h2 h3 h4 h5 h6)
  have c0 : w.cell? ⟨g, 0, none⟩ = some (.slice A l cap) := by rw [cell_of_row w g 0 _ _ (0, 0) h1]; rfl
  have c1 : w.cell? ⟨g, 1, none⟩ = some (.int .i64 p) := by rw [cell_of_row w g 1 _ _ (0, 0) h1]; rfl
  have f1 : w.frozen? ⟨g, 1, none⟩ = false := by simp [World.frozen?, h1]
  have H1 := Lib.hid h1; clear h1
  by_cases hn : n < 1
  · have hd : decide (n < 1) = true := by simp [hn]
    go_enter Try.func35, Try.ntmps35
    go_wp2
    go_ret
    exact ⟨0, rfl, by omega, .inr rfl, hask.out 0⟩
  · have hd : decide (n < 1) = false := by simp; omega
    by_cases hl : l = 0
    · subst hl
      go_enter Try.func35, Try.ntmps35
      go_wp2
      go_ret
      exact ⟨0, rfl, by omega, .inr rfl, hask.out 0⟩
    · have hl0 : ((l : Int) == 0) = false := by simp; omega
      obtain ⟨b, off, rfl, hb, hc⟩ := h4 (by omega)
      have hne : ¬ b = g := by omega
      by_cases hk : p < l
      · have hck := hc p (by omega)
        have hfp := h5 p
        have hdk : decide ((p : Int) < (l : Int)) = true := by simp [hk]
        clear hc h4
        go_enter Try.func35, Try.ntmps35
        have hn1 : 1 ≤ n := by omega
        go_wp2
        go_ret
        exact ⟨f p % n, rfl, Int.emod_nonneg _ (by omega), .inl (Int.emod_lt_of_pos _ (by omega)), hask.out 0⟩
      · have hdk : decide ((p : Int) < (l : Int)) = false := by simp; omega
        have hck := hc (p % l) (by have := Nat.mod_lt p (show l > 0 by omega); omega)
        have hck2 := hc ((p * 7 + 3) % l) (by have := Nat.mod_lt (p * 7 + 3) (show l > 0 by omega); omega)
        clear hc h4
        have y0 : (0 : Int) ≤ (p : Int) % (l : Int) := Int.emod_nonneg _ (by omega)
        have y1 : (p : Int) % (l : Int) < (l : Int) := Int.emod_lt_of_pos _ (by omega)
        have y2 : ((p : Int) % (l : Int)).toNat = p % l := by rw [← Int.natCast_emod]; exact Int.toNat_natCast _
        have z0 : (0 : Int) ≤ ((p : Int) * 7 + 3) % (l : Int) := Int.emod_nonneg _ (by omega)
        have z1 : ((p : Int) * 7 + 3) % (l : Int) < (l : Int) := Int.emod_lt_of_pos _ (by omega)
        have z2 : (((p : Int) * 7 + 3) % (l : Int)).toNat = (p * 7 + 3) % l := by rw [show (p : Int) * 7 + 3 = ((p * 7 + 3 : Nat) : Int) by omega, ← Int.natCast_emod]; exact Int.toNat_natCast _
        have b1 := h5 (p % l)
        have b2 := h5 ((p * 7 + 3) % l)
        have q0 : (0 : Int) ≤ (p : Int) / (l : Int) := Int.ediv_nonneg (by omega) (by omega)
        have q1 : (p : Int) / (l : Int) ≤ p := Int.ediv_le_self _ (by omega)
        go_enter Try.func35, Try.ntmps35
        go_wp2
        go_quiet (fail)
        have hs0 : 0 ≤ f (p % l) * 131 + f ((p * 7 + 3) % l) * 1117 + (p : Int) * 29 + (p : Int) / (l : Int) * 53 := by omega
        have hs1 : f (p % l) * 131 + f ((p * 7 + 3) % l) * 1117 + (p : Int) * 29 + (p : Int) / (l : Int) * 53 ≤ 1000000000 := by omega
        have hn1 : 1 ≤ n := by omega
        generalize f (p % l) * 131 + f ((p * 7 + 3) % l) * 1117 + (p : Int) * 29 + (p : Int) / (l : Int) * 53 = S at *
        obtain ⟨s, rfl⟩ := Int.eq_ofNat_of_zero_le hs0
        have hx : bits .xor .i64 (s : Int) ((s : Int) / 64) = ((s ^^^ (s / 64) : Nat) : Int) := xor_nat s (s / 64) (by omega) (by omega)
        have hxb : s ^^^ (s / 64) < 1073741824 := Nat.xor_lt_two_pow (n := 30) (by omega) (by omega)
        clear y0 y1 y2 z0 z1 z2 q0 q1 b1 b2 hck hck2
        go_wp2
        go_ret
        exact ⟨_, rfl, Int.emod_nonneg _ (by omega), .inl (Int.emod_lt_of_pos _ (by omega)), hask.out _⟩
/-- odd: some answer. -/
def Odd (g m : Nat) (w : World) (e : Ending) (w' : World) : Prop := ∃ b : Bool, e = .returned (.bool b) ∧ Rdr w' g (m + 1) ∧ w.grownBy w' (some g)
theorem odd_any (g m : Nat) (n : Int) (w : World) (h : Rdr w g m) (hm : m ≤ 1048576) (hn : 0 ≤ n) (hn2 : n ≤ 1000000) :
    Calls Try.prog 36 #[.pointer (some ⟨g, 0, none⟩), .int .i64 n] w (Odd g m w) := by
  by_cases h0 : 0 < n
  · have hd : decide (0 < n) = true := by simp [h0]
    go_enter Try.func36, Try.ntmps36
    go_wp2_with (go_at_call 35; refine (pick_any g m _ _ h hm).mono ?_; rintro e w1 ⟨x, rfl, hx0, hx1, hr, hg⟩)
    all_goals go_ret
    all_goals exact ⟨_, rfl, hr, hg⟩
  · have hd : decide (0 < n) = false := by simp; omega
    go_enter Try.func36, Try.ntmps36
    go_wp2
    go_ret
    exact ⟨false, rfl, h.more (by omega), World.grownBy.refl _ _⟩
/-- A code: its bytes. -/
def RdU (w : World) (B : Nat) (A : Option Addr) (cs : List Int) : Prop := Rd w B 1 A cs.length (fun j => .int .u8 (PP.at_ cs j))
theorem byte_bounds {cs : List Int} (h : ∀ n ∈ cs, (Lit.int .u8 n).wf = true) (j : Nat) : 0 ≤ PP.at_ cs j ∧ PP.at_ cs j ≤ 255 := by
  unfold PP.at_
  cases hj : cs[j]? with
  | none => simp
  | some v =>
    have := h v (List.mem_of_getElem? hj)
    simp [Lit.wf, IntKind.min, IntKind.max, IntKind.signed, IntKind.bits] at this
    simp only [Option.getD_some]
    omega
/-- l20Open: a reader in a new block. -/
theorem l20Open_any (A : Option Addr) (cap B : Nat) (cs : List Int) (w : World) (h : RdU w B A cs) (hB : B ≤ w.heap.size) (hb : ∀ j, 0 ≤ PP.at_ cs j ∧ PP.at_ cs j ≤ 255) (hc : cs.length ≤ cap) (hl : cs.length ≤ 1048576) :
    Calls Try.prog 13 #[.slice A cs.length cap] w fun e w' => e = .returned (.pointer (some ⟨w.heap.size, 0, none⟩)) ∧ Rdr w' w.heap.size 0 ∧ Below w.heap.size w w' := by
  by_cases hl2 : cs.length ≤ 2000
  · have hd : decide (2000 < (cs.length : Int)) = false := by simp; omega
    go_enter Try.func13, Try.ntmps13
    go_wp2
    go_ret
    refine ⟨rfl, ⟨A, cs.length, cap, B, PP.at_ cs, 0, heap_alloc_new w _, hl2, hB, Rd.below h ((Below.refl _ _).alloc hB _), hb, Nat.le_refl _⟩, (Below.refl _ _).alloc (Nat.le_refl _) _⟩
  · have hd : decide (2000 < (cs.length : Int)) = true := by simp; omega
    obtain ⟨b, off, rfl, hbB, hcell⟩ := h (by omega)
    have hc2 : 2000 ≤ cap := by omega
    go_enter Try.func13, Try.ntmps13
    go_wp2
    go_ret
    refine ⟨rfl, ⟨some ⟨b, off, none⟩, 2000, cap, B, PP.at_ cs, 0, heap_alloc_new w _, by omega, hB, ?_, hb, Nat.le_refl _⟩, (Below.refl _ _).alloc (Nat.le_refl _) _⟩
    exact Rd.below (fun _ => ⟨b, off, rfl, hbB, fun j hj => hcell j (by omega)⟩) ((Below.refl _ _).alloc hB _)
end Go.Proofs.Ytfnmlffpnmmcdaa
