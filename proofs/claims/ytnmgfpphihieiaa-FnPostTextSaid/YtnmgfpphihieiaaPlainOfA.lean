/- PlainOf: plain laws, and the index of a byte. -/
import Derived.Test.YtnmgfpphihieiaaTextPlain
import Derived.Lib.Bytealg
namespace Go.Proofs.Ytnmgfpphihieiaa
open Go.RowKit
theorem ix_list (c : UInt8) : ∀ l : List UInt8, (Lib.indexByte l c = -1 ∧ ∀ k, k < l.length → l[k]?.getD 0 ≠ c) ∨ ∃ k : Nat, k < l.length ∧ Lib.indexByte l c = (k : Int) ∧ l[k]?.getD 0 = c ∧ ∀ j, j < k → l[j]?.getD 0 ≠ c
  | [] => .inl ⟨rfl, fun k hk => absurd hk (by simp)⟩
  | b :: l => by
    by_cases hb : b = c
    · subst hb
      exact .inr ⟨0, by simp, by simp [Lib.indexByte], by simp, fun j hj => absurd hj (by omega)⟩
    · have e : (b == c) = false := beq_eq_false_iff_ne.2 hb
      rcases ix_list c l with ⟨h1, h2⟩ | ⟨k, hk, h1, h2, h3⟩
      · refine .inl ⟨by simp [Lib.indexByte, e, h1], fun k hk => ?_⟩
        cases k with
        | zero => simpa using hb
        | succ k => simpa using h2 k (by simpa using hk)
      · refine .inr ⟨k + 1, by simpa using hk, ?_, by simpa using h2, fun j hj => ?_⟩
        · have e2 : (Lib.indexByte l c == -1) = false := beq_eq_false_iff_ne.2 (by omega)
          simp only [Lib.indexByte, e, e2, Bool.false_eq_true, if_false]
          rw [h1]; rfl
        · cases j with
          | zero => simpa using hb
          | succ j => simpa using h3 j (by omega)
/-- Where a byte is first. -/
theorem ix_bb (s : ByteArray) (c : UInt8) : (Lib.indexByte s.data.toList c = -1 ∧ ∀ k, k < s.size → bb s k ≠ (c.toNat : Int)) ∨ ∃ k : Nat, k < s.size ∧ Lib.indexByte s.data.toList c = (k : Int) ∧ bb s k = (c.toNat : Int) ∧ ∀ j, j < k → bb s j ≠ (c.toNat : Int) := by
  have hl : s.data.toList.length = s.size := by rw [Array.length_toList]; rfl
  have hne : ∀ k, k < s.size → s.data.toList[k]?.getD 0 ≠ c → bb s k ≠ (c.toNat : Int) := fun k hk h e => by
    rw [bb_get hk] at e
    exact h (UInt8.toNat_inj.1 (by omega))
  rcases ix_list c s.data.toList with ⟨h1, h2⟩ | ⟨k, hk, h1, h2, h3⟩
  · exact .inl ⟨h1, fun k hk => hne k hk (h2 k (by omega))⟩
  · exact .inr ⟨k, by omega, h1, by rw [bb_get (by omega), h2], fun j hj => hne j (by omega) (h3 j hj)⟩
set_option maxHeartbeats 1000000 in
set_option maxRecDepth 100000 in
theorem ixLite_any (s : ByteArray) (c : Int) (w : World) : Calls Try.prog 46 #[.string s, .int .u8 c] w fun e w' => e = .returned (.int .i64 (Lib.indexByte s.data.toList c.toNat.toUInt8)) ∧ w' = w := by
  go_enter Try.func46, Try.ntmps46
  go_wp2
  rw [run_callFunc_extern Try.func49 (by kernel_rfl) (by kernel_rfl) (by kernel_rfl) (e := Extern.BytealgIndexByte.indexByte) (by kernel_rfl), Lib.run_indexByteString]
  simp only [Result.andThen]
  rw [Oper.upon_value]
  go_wp2
  go_ret
  exact ⟨rfl, rfl⟩
theorem ixByte_any (s : ByteArray) (c : Int) (w : World) : Calls Try.prog 39 #[.string s, .int .u8 c] w fun e w' => e = .returned (.int .i64 (Lib.indexByte s.data.toList c.toNat.toUInt8)) ∧ w = w' := by
  go_enter Try.func39, Try.ntmps39
  go_wp2_with (go_at_call 46; refine (ixLite_any _ _ _).mono ?_; rintro e w' ⟨rfl, rfl⟩)
  go_ret
  exact ⟨rfl, rfl⟩
/-- Without marks: the first k bytes; is one inside? -/
def plS (s : ByteArray) : Nat → ByteArray × Bool
  | 0 => (ByteArray.empty, false)
  | k + 1 => if bb s k = 60 ∧ (plS s k).2 = false then ((plS s k).1, true) else if bb s k = 62 ∧ (plS s k).2 = true then ((plS s k).1, false) else if (plS s k).2 = false then ((plS s k).1 ++ s.extract k (k + 1), false) else plS s k
theorem plS_succ (s : ByteArray) (k : Nat) : plS s (k + 1) = if bb s k = 60 ∧ (plS s k).2 = false then ((plS s k).1, true) else if bb s k = 62 ∧ (plS s k).2 = true then ((plS s k).1, false) else if (plS s k).2 = false then ((plS s k).1 ++ s.extract k (k + 1), false) else plS s k := rfl
theorem plS_open {s o : ByteArray} {k : Nat} (h : plS s k = (o, false)) (hc : bb s k = 60) : plS s (k + 1) = (o, true) := by rw [plS_succ, h, if_pos ⟨hc, rfl⟩]
theorem plS_shut {s o : ByteArray} {k : Nat} (h : plS s k = (o, true)) (hc : bb s k = 62) : plS s (k + 1) = (o, false) := by
  rw [plS_succ, h, if_neg (by omega), if_pos ⟨hc, rfl⟩]
theorem plS_out {s o : ByteArray} {k : Nat} (h : plS s k = (o, false)) (hc : bb s k ≠ 60) : plS s (k + 1) = (o ++ s.extract k (k + 1), false) := by
  rw [plS_succ, h, if_neg (fun h => hc h.1), if_neg (by simp), if_pos rfl]
theorem plS_ins {s o : ByteArray} {k : Nat} (h : plS s k = (o, true)) (hc : bb s k ≠ 62) : plS s (k + 1) = (o, true) := by
  rw [plS_succ, h, if_neg (by simp), if_neg (fun h => hc h.1), if_neg (by simp)]
theorem plS_size (s : ByteArray) (k : Nat) : (plS s k).1.size ≤ k := by
  induction k with
  | zero => simp [plS]
  | succ k ih =>
    rw [plS_succ]
    split
    · show (plS s k).1.size ≤ _; omega
    · split
      · show (plS s k).1.size ≤ _; omega
      · split
        · show ((plS s k).1 ++ s.extract k (k + 1)).size ≤ _
          rw [ByteArray.size_append, ByteArray.size_extract]; omega
        · omega
theorem ext_join {s : ByteArray} {p q : Nat} (h : p ≤ q) : s.extract p q ++ s.extract q (q + 1) = s.extract p (q + 1) := by
  rw [ByteArray.extract_append_extract]
  rw [Nat.min_eq_left h, Nat.max_eq_right (by omega)]
theorem plS_run {s o : ByteArray} {p : Nat} (h : plS s p = (o, false)) : ∀ {n : Nat}, (∀ k, p ≤ k → k < p + n → bb s k ≠ 60) → plS s (p + n) = (o ++ s.extract p (p + n), false)
  | 0, _ => by rw [Nat.add_zero, h, show s.extract p p = ByteArray.empty from ByteArray.extract_same, ByteArray.append_empty]
  | n + 1, hn => by
    have ih := plS_run h (n := n) (fun k h1 h2 => hn k h1 (by omega))
    rw [← Nat.add_assoc, plS_out ih (hn _ (by omega) (by omega)), ByteArray.append_assoc, ext_join (by omega)]
theorem plS_stay {s o : ByteArray} {p : Nat} (h : plS s p = (o, true)) : ∀ {n : Nat}, (∀ k, p ≤ k → k < p + n → bb s k ≠ 62) → plS s (p + n) = (o, true)
  | 0, _ => h
  | n + 1, hn => by
    have ih := plS_stay h (n := n) (fun k h1 h2 => hn k h1 (by omega))
    rw [← Nat.add_assoc, plS_ins ih (hn _ (by omega) (by omega))]
/-- PlainOf's answer. -/
def plainOf (s : ByteArray) : ByteArray := if textB s = true then (plS s s.size).1 else ByteArray.empty
theorem plainOf_yes {s : ByteArray} (h : textB s = true) : plainOf s = (plS s s.size).1 := if_pos h
theorem plainOf_no {s : ByteArray} (h : textB s = false) : plainOf s = ByteArray.empty := if_neg (by rw [h]; simp)
theorem plainOf_size (s : ByteArray) : (plainOf s).size ≤ 80 := by
  unfold plainOf
  split
  · next h => have := plS_size s s.size; have := (Text.of h).1; omega
  · decide
end Go.Proofs.Ytnmgfpphihieiaa
