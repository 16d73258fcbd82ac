import Derived.Test.YtdcppbaahoimfaaMoveC
import Derived.Test.YtdcppbaahoimfaaMovePlain2
import Derived.Test.YtdcppbaahoimfaaListsMove
import Derived.Test.YtdcppbaahoimfaaRegB
namespace Go.Proofs.Ytdcppbaahoimfaa
open Go.RowKit
/-- With one more. -/
def addM (ms : List ElMove) (m : ElMove) : List ElMove := ms ++ [m]
theorem addM_len (ms : List ElMove) (m : ElMove) : (addM ms m).length = ms.length + 1 := by simp [addM]
theorem add_szM {ms : List ElMove} (h : ∀ k, k < ms.length → (gt ms k).1.1.size ≤ maxLen ∧ (gt ms k).1.2.size ≤ maxLen ∧ (gt ms k).2.1.size ≤ maxLen ∧ (gt ms k).2.2.size ≤ maxLen) {m : ElMove} (hm : m.1.1.size ≤ maxLen ∧ m.1.2.size ≤ maxLen ∧ m.2.1.size ≤ maxLen ∧ m.2.2.size ≤ maxLen) : ∀ k, k < (ms ++ [m]).length → (gt (ms ++ [m]) k).1.1.size ≤ maxLen ∧ (gt (ms ++ [m]) k).1.2.size ≤ maxLen ∧ (gt (ms ++ [m]) k).2.1.size ≤ maxLen ∧ (gt (ms ++ [m]) k).2.2.size ≤ maxLen := fun k hk => by
  rw [gt_append]
  split
  · exact h k (by assumption)
  · rw [List.length_append, List.length_singleton] at hk
    rw [show k - ms.length = 0 by omega]; exact hm
theorem addMOf_sz {ms : List ElMove} (h : ∀ k, k < ms.length → (gt ms k).1.1.size ≤ maxLen ∧ (gt ms k).1.2.size ≤ maxLen ∧ (gt ms k).2.1.size ≤ maxLen ∧ (gt ms k).2.2.size ≤ maxLen) {m : ElMove} (hm : m.1.1.size ≤ maxLen ∧ m.1.2.size ≤ maxLen ∧ m.2.1.size ≤ maxLen ∧ m.2.2.size ≤ maxLen) : ∀ k, k < (addMOf ms m).length → (gt (addMOf ms m) k).1.1.size ≤ maxLen ∧ (gt (addMOf ms m) k).1.2.size ≤ maxLen ∧ (gt (addMOf ms m) k).2.1.size ≤ maxLen ∧ (gt (addMOf ms m) k).2.2.size ≤ maxLen := by
  unfold addMOf
  split
  · split
    · exact add_szM h hm
    · exact h
  · intro k hk; simp at hk
set_option maxHeartbeats 800000 in
theorem implAddMove_any (A : Option Addr) (cap B : Nat) (ms : List ElMove) (m : ElMove) (w : World) (h : RdE 4 encMove w B A ms) (hB : B ≤ w.heap.size) (hl : ms.length ≤ 140737488351232) (hS : Shp A ms.length cap) (hcap : ms.length ≤ cap) (hsz : ∀ k, k < ms.length → (gt ms k).1.1.size ≤ maxLen ∧ (gt ms k).1.2.size ≤ maxLen ∧ (gt ms k).2.1.size ≤ maxLen ∧ (gt ms k).2.2.size ≤ maxLen) (hm : m.1.1.size ≤ maxLen ∧ m.1.2.size ≤ maxLen ∧ m.2.1.size ≤ maxLen ∧ m.2.2.size ≤ maxLen) :
    Calls Try.prog 26 #[.slice A ms.length cap, .agg #[.string m.1.1, .string m.1.2, .string m.2.1, .string m.2.2]] w fun e w' => ∃ T' cap', e = .returned (.tuple #[.slice T' (addMOf ms m).length cap', .bool (addMOk ms m)]) ∧ OwnE 4 encMove 30 w' w.heap.size T' cap' (addMOf ms m) ∧ Below w.heap.size w w' := by
  have hbA : Below w.heap.size w (w.alloc (.cells #[.string m.1.1, .string m.1.2, .string m.2.1, .string m.2.2] 30)) := (Below.refl _ _).alloc (Nat.le_refl _) _
  have hpA0 : (w.alloc (.cells #[.string m.1.1, .string m.1.2, .string m.2.1, .string m.2.2] 30)).cell? ⟨w.heap.size, 0, none⟩ = some (.string m.1.1) := by rw [World.cell?_alloc_at _ _ _ _ rfl]; rfl
  have hpA1 : (w.alloc (.cells #[.string m.1.1, .string m.1.2, .string m.2.1, .string m.2.2] 30)).cell? ⟨w.heap.size, 1, none⟩ = some (.string m.1.2) := by rw [World.cell?_alloc_at _ _ _ _ rfl]; rfl
  have hpA2 : (w.alloc (.cells #[.string m.1.1, .string m.1.2, .string m.2.1, .string m.2.2] 30)).cell? ⟨w.heap.size, 2, none⟩ = some (.string m.2.1) := by rw [World.cell?_alloc_at _ _ _ _ rfl]; rfl
  have hpA3 : (w.alloc (.cells #[.string m.1.1, .string m.1.2, .string m.2.1, .string m.2.2] 30)).cell? ⟨w.heap.size, 3, none⟩ = some (.string m.2.2) := by rw [World.cell?_alloc_at _ _ _ _ rfl]; rfl
  have hzA : (w.alloc (.cells #[.string m.1.1, .string m.1.2, .string m.2.1, .string m.2.2] 30)).heap.size = w.heap.size + 1 := by simp
  have HSZ := Lib.hid hsz
  have HM : Hid (∀ k, k < (addM ms m).length → (gt (addM ms m) k).1.1.size ≤ maxLen ∧ (gt (addM ms m) k).1.2.size ≤ maxLen ∧ (gt (addM ms m) k).2.1.size ≤ maxLen ∧ (gt (addM ms m) k).2.2.size ≤ maxLen) := Lib.hid (add_szM hsz hm)
  clear hsz hm
  by_cases hv : mvB ms = true
  · have h8 := mv_len hv
    go_enter Try.func26, Try.ntmps26
    go_wp2_with fail
    have HZ := Lib.hid hzA
    clear hzA
    generalize (w.alloc (.cells #[.string m.1.1, .string m.1.2, .string m.2.1, .string m.2.2] 30)) = wA at *
    refine (implMovesValid_any _ _ B ms wA (h.below (hbA.mono hB)) (Nat.le_trans hB hbA.size) (by omega) hcap HSZ.out).mono ?_
    rintro e w1 ⟨rfl, hb1⟩
    have hb1w := hbA.trans (hb1.mono hbA.size)
    have hs1 : w.heap.size + 1 ≤ w1.heap.size := by have := hb1.size; have := HZ.out; omega
    have s0 := (hb1.cell (p := ⟨w.heap.size, 0, none⟩) (by show w.heap.size < wA.heap.size; have := HZ.out; omega)).trans hpA0
    have s1 := (hb1.cell (p := ⟨w.heap.size, 1, none⟩) (by show w.heap.size < wA.heap.size; have := HZ.out; omega)).trans hpA1
    have s2 := (hb1.cell (p := ⟨w.heap.size, 2, none⟩) (by show w.heap.size < wA.heap.size; have := HZ.out; omega)).trans hpA2
    have s3 := (hb1.cell (p := ⟨w.heap.size, 3, none⟩) (by show w.heap.size < wA.heap.size; have := HZ.out; omega)).trans hpA3
    have hr1 := h.below (hb1w.mono hB)
    clear hpA0 hpA1 hpA2 hpA3 hb1 hbA HZ
    have hcall := withAtMove_any A cap B ms ms.length m w1 hr1 (by omega) hS (Nat.le_refl _) (by omega)
    rw [List.take_length, List.drop_length, List.append_nil, show ms ++ [m] = addM ms m from rfl] at hcall
    have HC := Lib.hid hcall
    clear hcall
    go_wp2_with fail
    refine HC.out.mono ?_
    clear HC
    rintro e w2 ⟨T, c, rfl, ho2, hb2⟩
    have hs2 := hb2.size
    have c2 := hb1w.trans (hb2.mono (by omega))
    have hl2 : (addM ms m).length ≤ 9 := by rw [addM_len]; omega
    clear s0 s1 s2 s3
    by_cases hv2 : mvB (addM ms m) = true
    · have H1 := Lib.hid (addMOf_yes hv (show mvB (ms ++ [m]) = true from hv2))
      have H2 := Lib.hid (addMOk_yes hv (show mvB (ms ++ [m]) = true from hv2))
      go_wp2_with fail
      refine (implMovesValid_any _ _ _ (addM ms m) w2 (OwnE.rd ho2) (Nat.le_refl _) (by omega) (capLe_own ho2) HM.out).mono ?_
      rintro e w3 ⟨rfl, hb3⟩
      go_wp2_with fail
      go_ret2
      rw [H1.out, H2.out]
      exact ⟨T, c, rfl, Own.more (Own.below ho2 hb3) (by omega), c2.trans (hb3.mono (by omega))⟩
    · have hv2' : mvB (addM ms m) = false := by simpa using hv2
      have H1 := Lib.hid (addMOf_no hv (show mvB (ms ++ [m]) = false from hv2'))
      have H2 := Lib.hid (addMOk_no (ms := ms) (show mvB (ms ++ [m]) = false from hv2'))
      clear hv2
      go_wp2_with fail
      refine (implMovesValid_any _ _ _ (addM ms m) w2 (OwnE.rd ho2) (Nat.le_refl _) (by omega) (capLe_own ho2) HM.out).mono ?_
      rintro e w3 ⟨rfl, hb3⟩
      have hs3 := hb3.size
      have c3 := c2.trans (hb3.mono (by omega))
      go_wp2_with fail
      refine (copyOfMove_any _ _ B ms w3 (h.below (c3.mono hB)) (by omega)).mono ?_
      rintro e w4 ⟨T4, c4, rfl, ho4, hb4⟩
      go_wp2_with fail
      go_ret2
      rw [H1.out, H2.out]
      exact ⟨T4, c4, rfl, Own.more ho4 (by omega), c3.trans (hb4.mono (by omega))⟩
  · have hv' : mvB ms = false := by simpa using hv
    rw [addMOf_bad (m := m) hv', addMOk_bad (m := m) hv']
    clear hv
    go_enter Try.func26, Try.ntmps26
    go_wp2_with fail
    have HZ := Lib.hid hzA
    clear hzA
    generalize (w.alloc (.cells #[.string m.1.1, .string m.1.2, .string m.2.1, .string m.2.2] 30)) = wA at *
    refine (implMovesValid_any _ _ B ms wA (h.below (hbA.mono hB)) (Nat.le_trans hB hbA.size) (by omega) hcap HSZ.out).mono ?_
    rintro e w1 ⟨rfl, hb1⟩
    have hb1w := hbA.trans (hb1.mono hbA.size)
    have hs1 : w.heap.size + 1 ≤ w1.heap.size := by have := hb1.size; have := HZ.out; omega
    have s0 := (hb1.cell (p := ⟨w.heap.size, 0, none⟩) (by show w.heap.size < wA.heap.size; have := HZ.out; omega)).trans hpA0
    have s1 := (hb1.cell (p := ⟨w.heap.size, 1, none⟩) (by show w.heap.size < wA.heap.size; have := HZ.out; omega)).trans hpA1
    have s2 := (hb1.cell (p := ⟨w.heap.size, 2, none⟩) (by show w.heap.size < wA.heap.size; have := HZ.out; omega)).trans hpA2
    have s3 := (hb1.cell (p := ⟨w.heap.size, 3, none⟩) (by show w.heap.size < wA.heap.size; have := HZ.out; omega)).trans hpA3
    have hr1 := h.below (hb1w.mono hB)
    clear hpA0 hpA1 hpA2 hpA3 hb1 hbA HZ
    go_wp2_with fail
    go_ret2
    exact ⟨none, 0, rfl, Own.nil _ _ _ _ _, hb1w⟩
end Go.Proofs.Ytdcppbaahoimfaa
