/- The library's count of words is the plain one, of a valid text. -/
import Derived.Test.YtlldbgekbndohaaDoorCountPlain
import Derived.Test.YtlldbgekbndohaaDoorShelfWords
namespace Go.Proofs.YtlldbgekbndohaaDoor
theorem sp_iff {s : ByteArray} (h : Text s) {k : Nat} (hk : k < s.size) {x : UInt8} (hx : s.data.toList[k]? = some x) : Lib.isSp x = decide (bb s k = 32) := by
  have hb : bb s k = (x.toNat : Int) := by rw [bb_get hk, hx]; rfl
  have h2 := h.2 k hk
  rw [hb] at h2 ⊢
  have h3 : 32 ≤ x.toNat ∧ x.toNat ≤ 126 := by omega
  clear hb h2 hx
  revert h3
  have hx : x.toNat < 256 := x.toNat_lt
  obtain ⟨n, hn⟩ : ∃ n, x.toNat = n := ⟨_, rfl⟩
  have hxn : x = UInt8.ofNat n := by rw [← hn]; simp
  rw [hn]; subst hxn
  rintro ⟨h1, h2⟩
  have all : ∀ n : Fin 127, 32 ≤ n.val → Lib.isSp (UInt8.ofNat n.val) = decide ((n.val : Int) = 32) := by decide +kernel
  exact all ⟨n, by omega⟩ h1
theorem words_count' {s : ByteArray} (h : Text s) : ∀ (n k : Nat), s.size - k = n → k ≤ s.size → wdTo s k + Lib.cntF (decide (k = 0 ∨ bb s (k - 1) = 32)) (s.data.toList.drop k) = wdTo s s.size := by
  intro n
  have hlen : s.data.toList.length = s.size := by simp
  induction n with
  | zero =>
    intro k hn hk
    obtain rfl : k = s.size := by omega
    rw [List.drop_eq_nil_of_le (by omega)]
    rfl
  | succ n ih =>
    intro k hn hk
    have hlt : k < s.size := by omega
    have hx : s.data.toList[k]? = some (s.data.toList[k]'(by omega)) := List.getElem?_eq_getElem _
    rw [Lib.drop_at hx, Lib.cntF_step, sp_iff h hlt hx]
    have h1 := ih (k + 1) (by omega) (by omega)
    have e1 : decide (k + 1 = 0 ∨ bb s (k + 1 - 1) = 32) = decide (bb s k = 32) := decide_eq_decide.2 ⟨fun q => by rcases q with q | q; omega; exact q, fun q => .inr q⟩
    rw [e1] at h1
    rw [← h1, ← Nat.add_assoc]
    congr 1
    by_cases h3 : bb s k = 32
    · rw [wdTo_no (wdB_sp h3)]; simp [h3]
    · by_cases h4 : k = 0 ∨ bb s (k - 1) = 32
      · rw [wdTo_yes (wdB_true h3 h4)]; simp [h3, h4]
      · rw [wdTo_no (wdB_in (fun e => h4 (.inl e)) (fun e => h4 (.inr e)))]; simp [h3, h4]
theorem words_count {s : ByteArray} (h : Text s) : (Lib.fields s.data.toList).length = wdTo s s.size := by
  rw [Lib.fields_length, ← words_count' h s.size 0 (by omega) (Nat.zero_le _)]
  simp [wdTo_zero]
theorem text_ascii {s : ByteArray} (h : Text s) : ∀ (j : Nat) b, s.data.toList[j]? = some b → b.toNat < 128 := by
  intro j b hj
  have hlen : s.data.toList.length = s.size := by simp
  have hk : j < s.size := by
    have := (List.getElem?_eq_some_iff.1 hj).1
    omega
  have h2 := h.2 j hk
  have hb : bb s j = (b.toNat : Int) := by rw [bb_get hk, hj]; rfl
  omega
end Go.Proofs.YtlldbgekbndohaaDoor
