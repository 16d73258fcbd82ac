import Derived.Test.YtdcppbaahoimfaaMovePlain
import Derived.Test.YtdcppbaahoimfaaHandleV
import Derived.Test.YtdcppbaahoimfaaTail
namespace Go.Proofs.Ytdcppbaahoimfaa
open Go.RowKit
set_option maxHeartbeats 400000 in
theorem moveFrom_any (A : Option Addr) (cap B : Nat) (ms : List ElMove) (x y : ByteArray) (w : World) (h : RdE 4 encMove w B A ms) (hB : B ≤ w.heap.size) (hl : ms.length ≤ 140737488351232) :
    Calls Try.prog 45 #[.slice A ms.length cap, .agg #[.string x, .string y]] w fun e w' => e = .returned (.int .i64 (fromIx ms (x, y))) ∧ Below w.heap.size w w' := by
  have b0 : (w.alloc (.cells #[.string x, .string y] 28)).cell? ⟨w.heap.size, 0, none⟩ = some (Value.string x) := by rw [World.cell?_alloc_at _ _ _ _ rfl]; rfl
  have b1 : (w.alloc (.cells #[.string x, .string y] 28)).cell? ⟨w.heap.size, 1, none⟩ = some (Value.string y) := by rw [World.cell?_alloc_at _ _ _ _ rfl]; rfl
  have hbB : Below w.heap.size w (w.alloc (.cells #[.string x, .string y] 28)) := (Below.refl _ _).alloc (Nat.le_refl _) _
  have hzB : w.heap.size < (w.alloc (.cells #[.string x, .string y] 28)).heap.size := by simp
  have hrB := h.below (hbB.mono hB)
  go_enter Try.func45, Try.ntmps45
  go_wp2_with fail
  generalize (w.alloc (.cells #[.string x, .string y] 28)) = wB at *
  have hBB : B ≤ wB.heap.size := by omega
  go_loopw [9] (fun i wr => ∃ k : Nat, k ≤ ms.length ∧ Hid (∀ j, j < k → isF (x, y) (gt ms j) = false) ∧ i = .int .i64 k ∧ Below wB.heap.size wB wr) (fun i _ => ms.length - (intOf i).toNat)
  case atStart => exact ⟨0, Nat.zero_le _, Lib.hid (fun j hj => absurd hj (by omega)), rfl, Below.refl _ _⟩
  case round =>
    obtain ⟨k, hk, hno, rfl, hbl⟩ := hrel
    by_cases hlt : k < ms.length
    · obtain ⟨b, off, rfl, hb, hc⟩ := (hrB.below (hbl.mono hBB)).at_ (by omega)
      have g0 := (hbl.cell (p := ⟨w.heap.size, 0, none⟩) hzB).trans b0
      have g1 := (hbl.cell (p := ⟨w.heap.size, 1, none⟩) hzB).trans b1
      have hgz : w.heap.size < wr.heap.size := Nat.lt_of_lt_of_le hzB hbl.size
      have c0 : wr.cell? ⟨b, off + k * 4, none⟩ = some (Value.string ((gt ms k).1.1)) := hc k 0 (by omega) (by omega)
      have c1 : wr.cell? ⟨b, off + k * 4 + 1, none⟩ = some (Value.string ((gt ms k).1.2)) := hc k 1 (by omega) (by omega)
      have c2 : wr.cell? ⟨b, off + k * 4 + 2, none⟩ = some (Value.string ((gt ms k).2.1)) := hc k 2 (by omega) (by omega)
      have c3 : wr.cell? ⟨b, off + k * 4 + 3, none⟩ = some (Value.string ((gt ms k).2.2)) := hc k 3 (by omega) (by omega)
      clear hc
      have heq := fun w' => eql_Handle (gt ms k).1.1 (gt ms k).1.2 x y w'
      have hgd := guard_Handle
      by_cases hq : isF (x, y) (gt ms k) = true
      · have q0 : eqEl (α := ElHandle) ((gt ms k).1.1, (gt ms k).1.2) (x, y) = true := hq
        have HQ := Lib.hid (fromIx_at hlt hno.out hq)
        clear hq
        go_wp2_with fail
        go_ret
        exact ⟨ret_int HQ.out.symm, hbB.trans ((hbl.alloc hbl.size _).mono (by omega))⟩
      · have hq' : isF (x, y) (gt ms k) = false := by simpa using hq
        have q0 : eqEl (α := ElHandle) ((gt ms k).1.1, (gt ms k).1.2) (x, y) = false := hq'
        clear hq
        go_wp2_with fail
        go_roundw
        case rel => exact ⟨k + 1, by omega, Lib.hid (fun j hj => by
          rcases Nat.lt_succ_iff_lt_or_eq.1 hj with h1 | rfl
          · exact hno.out j h1
          · exact hq'), by go_num, hbl.alloc hbl.size _⟩
        case measure => simp [intOf]; omega
    · obtain rfl : k = ms.length := by omega
      go_wp2_with fail
      go_ret
      exact ⟨ret_int (fromIx_none hno.out).symm, hbB.trans (hbl.mono (by omega))⟩
end Go.Proofs.Ytdcppbaahoimfaa
