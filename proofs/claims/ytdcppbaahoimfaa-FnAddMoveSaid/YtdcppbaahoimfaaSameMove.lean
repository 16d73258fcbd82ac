/- Moves compared: sameMoves. -/
import Derived.Test.YtdcppbaahoimfaaMove
namespace Go.Proofs.Ytdcppbaahoimfaa
open Go.RowKit
theorem stood_Move : Try.prog.stoodInHeld 30 = false := by kernel_rfl
theorem guard_Move : Try.prog.eqGuardType Try.prog.depth 30 = false := by kernel_rfl
theorem eqIn_Handle9 (a b p q : ByteArray) (w : World) : (Op.equalIn 9999 28 (.agg #[.string a, .string b]) (.agg #[.string p, .string q])).run Try.prog w = .ok (eqEl (α := ElHandle) (a, b) (p, q)) w := by
  rw [run_equalIn_agg w 9998 28 _ _ (by rw [Program.fieldsOf, Try.underlying28]) stood_Handle]
  simp only [Program.fieldsOf, Try.underlying28]
  simp [go_sem, Try.underlying9]
  by_cases h0 : a = p <;> by_cases h1 : b = q <;> simp [eqEl, ba_list, *]
theorem eqIn_Move (a b c d p q r s : ByteArray) (w : World) : (Op.equalIn 10000 30 (.agg #[.string a, .string b, .string c, .string d]) (.agg #[.string p, .string q, .string r, .string s])).run Try.prog w = .ok (eqEl (α := ElMove) ((a, b), (c, d)) ((p, q), (r, s))) w := by
  have h9 := eqIn_Handle9
  rw [run_equalIn_agg w 9999 30 _ _ (by rw [Program.fieldsOf, Try.underlying30]) stood_Move]
  simp only [Program.fieldsOf, Try.underlying30]
  simp [go_sem, Try.underlying28, h9]
  by_cases h1 : ((a, b) : ElHandle) = (p, q)
  · by_cases h2 : ((c, d) : ElHandle) = (r, s)
    · rw [eqEl_true h1, eqEl_true h2, eqEl_true (by rw [h1, h2])]; simp
    · rw [eqEl_true h1, eqEl_false h2, eqEl_false (α := ElMove) (x := ((a, b), (c, d))) (y := ((p, q), (r, s))) (fun e => h2 (congrArg Prod.snd e))]; simp
  · rw [eqEl_false h1, eqEl_false (α := ElMove) (x := ((a, b), (c, d))) (y := ((p, q), (r, s))) (fun e => h1 (congrArg Prod.fst e))]; simp
theorem neq_Move (a b c d p q r s : ByteArray) (w : World) : (binOp .neq 30 (.agg #[.string a, .string b, .string c, .string d]) (.agg #[.string p, .string q, .string r, .string s])).run Try.prog w = .ok (.bool (!eqEl (α := ElMove) ((a, b), (c, d)) ((p, q), (r, s)))) w := by
  rw [run_neq_struct, eqIn_Move]; rfl
theorem sameMoves_any (A A' : Option Addr) (cap cap' B : Nat) (xs ys : List ElMove) (w : World) (h : RdE 4 encMove w B A xs) (h' : RdE 4 encMove w B A' ys) (hB : B ≤ w.heap.size) (hl : xs.length ≤ 140737488351232) (hl' : ys.length ≤ 140737488351232) :
    Calls Try.prog 28 #[.slice A xs.length cap, .slice A' ys.length cap'] w fun e w' => e = .returned (.bool (sameB xs ys)) ∧ Below w.heap.size w w' := by
  by_cases hlen : xs.length = ys.length
  · have HL := Lib.hid hlen
    have hd : ((xs.length : Int) != (ys.length : Int)) = false := by rw [hlen]; simp
    have hle : xs.length ≤ ys.length := by omega
    clear hlen
    go_enter Try.func28, Try.ntmps28
    go_wp2_with fail
    go_loopw [5] (fun i wr => ∃ k : Nat, k ≤ xs.length ∧ Hid (∀ j, j < k → gt xs j = gt ys j) ∧ i = .int .i64 k ∧ Below w.heap.size w wr) (fun i _ => xs.length - (intOf i).toNat)
    case atStart => exact ⟨0, Nat.zero_le _, Lib.hid (fun j hj => absurd hj (by omega)), rfl, Below.refl _ _⟩
    case round =>
      obtain ⟨k, hk, HO, rfl, hbl⟩ := hrel
      by_cases hlt : k < xs.length
      · obtain ⟨b, off, rfl, hb, hc⟩ := (h.below (hbl.mono hB)).at_ (by omega)
        obtain ⟨b', off', rfl, hb', hc'⟩ := (h'.below (hbl.mono hB)).at_ (by omega)
        have c0 : wr.cell? ⟨b, off + k * 4, none⟩ = some (Value.string ((gt xs k).1.1)) := hc k 0 (by omega) (by omega)
        have c1 : wr.cell? ⟨b, off + k * 4 + 1, none⟩ = some (Value.string ((gt xs k).1.2)) := hc k 1 (by omega) (by omega)
        have c2 : wr.cell? ⟨b, off + k * 4 + 2, none⟩ = some (Value.string ((gt xs k).2.1)) := hc k 2 (by omega) (by omega)
        have c3 : wr.cell? ⟨b, off + k * 4 + 3, none⟩ = some (Value.string ((gt xs k).2.2)) := hc k 3 (by omega) (by omega)
        have d0 : wr.cell? ⟨b', off' + k * 4, none⟩ = some (Value.string ((gt ys k).1.1)) := hc' k 0 (by omega) (by omega)
        have d1 : wr.cell? ⟨b', off' + k * 4 + 1, none⟩ = some (Value.string ((gt ys k).1.2)) := hc' k 1 (by omega) (by omega)
        have d2 : wr.cell? ⟨b', off' + k * 4 + 2, none⟩ = some (Value.string ((gt ys k).2.1)) := hc' k 2 (by omega) (by omega)
        have d3 : wr.cell? ⟨b', off' + k * 4 + 3, none⟩ = some (Value.string ((gt ys k).2.2)) := hc' k 3 (by omega) (by omega)
        have hlt' : k < ys.length := by omega
        clear hc hc'
        by_cases hne : gt xs k = gt ys k
        · have hn : eqEl (α := ElMove) (((gt xs k).1.1, (gt xs k).1.2), ((gt xs k).2.1, (gt xs k).2.2)) (((gt ys k).1.1, (gt ys k).1.2), ((gt ys k).2.1, (gt ys k).2.2)) = true := eqEl_true hne
          have HN := Lib.hid hne; clear hne
          go_wp2_with fail
          have hneq := fun w' => neq_Move (gt xs k).1.1 (gt xs k).1.2 (gt xs k).2.1 (gt xs k).2.2 (gt ys k).1.1 (gt ys k).1.2 (gt ys k).2.1 (gt ys k).2.2 w'
          have hgd := guard_Move
          go_quiet (fail)
          go_wp2_with fail
          go_roundw
          case rel => exact ⟨k + 1, by omega, Lib.hid (fun j hj => by
            rcases Nat.lt_succ_iff_lt_or_eq.1 hj with h1 | rfl
            · exact HO.out j h1
            · exact HN.out), by go_num, hbl.trans (below_drewN (Below.refl _ _) _)⟩
          case measure => simp [intOf]; omega
        · have hn : eqEl (α := ElMove) (((gt xs k).1.1, (gt xs k).1.2), ((gt xs k).2.1, (gt xs k).2.2)) (((gt ys k).1.1, (gt ys k).1.2), ((gt ys k).2.1, (gt ys k).2.2)) = false := eqEl_false hne
          have HN := Lib.hid hne; clear hne
          go_wp2_with fail
          have hneq := fun w' => neq_Move (gt xs k).1.1 (gt xs k).1.2 (gt xs k).2.1 (gt xs k).2.2 (gt ys k).1.1 (gt ys k).1.2 (gt ys k).2.1 (gt ys k).2.2 w'
          have hgd := guard_Move
          go_quiet (fail)
          go_wp2_with fail
          go_ret
          exact ⟨ret_bool (sameB_at HN.out).symm, hbl.trans (below_drewN (Below.refl _ _) _)⟩
      · obtain rfl : k = xs.length := by omega
        go_wp2_with fail
        go_ret
        exact ⟨ret_bool (sameB_true HL.out HO.out).symm, hbl⟩
  · have hd : ((xs.length : Int) != (ys.length : Int)) = true := by simp; omega
    go_enter Try.func28, Try.ntmps28
    go_wp2_with fail
    go_ret
    exact ⟨ret_bool (sameB_len hlen).symm, Below.refl _ _⟩
end Go.Proofs.Ytdcppbaahoimfaa
