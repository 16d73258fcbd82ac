import Derived.Test.YtfnmlffpnmmcdaaDrawBv
import Derived.Test.YtfnmlffpnmmcdaaBridgeV
import Derived.Test.YtfnmlffpnmmcdaaChain
import Derived.Test.YtfnmlffpnmmcdaaWords
namespace Go.Proofs.Ytfnmlffpnmmcdaa
open Go.RowKit PP
set_option maxRecDepth 100000 in
set_option maxHeartbeats 1600000 in
theorem FnBridgeValid_walk (A : Option Addr) (cap : Nat) (cs : List Int) (w : World) (h : Rd w w.heap.size 1 A cs.length (fun j => .int .u8 (at_ cs j))) (hc : cs.length ≤ cap) (_ : cap ≤ maxLen) (hwf : ∀ n ∈ cs, (Lit.int .u8 n).wf = true) :
    Calls Try.prog 3 #[.slice A cs.length cap] w fun e w' => e = .returned (.bool true) ∧ Below w.heap.size w w' := by
  by_cases hs : cs.length ≤ 1048576
  · have hd : decide (1048576 < (cs.length : Int)) = false := decide_eq_false (by omega)
    have hbyte := Lib.hid (byte_bounds hwf)
    clear hwf
    go_enter Try.func3, Try.ntmps3
    go_wp2_with fail
    refine (DrawBridgeValid_any A cap _ cs w h (Nat.le_refl _) hbyte.out hc hs).mono ?_
    rintro e w1 ⟨who, I, ci, is, F, cf, fs, nx, rfl, ⟨hw0, hw1⟩, ⟨hil, hiz⟩, ⟨hfl, hfz⟩, ⟨hn0, hn1⟩, oI, oF, hb1⟩
    have hs1 := hb1.size
    have rI := OwnE.rd oI
    have rF := OwnE.rd oF
    have hci := (Own.shape oI)
    have hcI : is.length ≤ ci := by rcases Own.shape oI with ⟨_, h1, h2⟩ | ⟨_, _, _, _, h1, _⟩ <;> omega
    have HIZ := Lib.hid (szI_max hiz)
    have HFZ := Lib.hid (szH_max hfz)
    clear hiz hfz hci oI oF
    have bB : Below w1.heap.size w1 (w1.alloc (.cells #[Value.string who.1, Value.string who.2, Value.slice I is.length ci, Value.slice F fs.length cf, Value.int .i64 nx] 28)) := (Below.refl _ _).alloc (Nat.le_refl _) _
    have zB : w1.heap.size < (w1.alloc (.cells #[Value.string who.1, Value.string who.2, Value.slice I is.length ci, Value.slice F fs.length cf, Value.int .i64 nx] 28)).heap.size := by simp
    have p0 : (w1.alloc (.cells #[Value.string who.1, Value.string who.2, Value.slice I is.length ci, Value.slice F fs.length cf, Value.int .i64 nx] 28)).cell? ⟨w1.heap.size, 0, none⟩ = some (Value.string who.1) := by rw [World.cell?_alloc_at _ _ _ _ rfl]; rfl
    have p1 : (w1.alloc (.cells #[Value.string who.1, Value.string who.2, Value.slice I is.length ci, Value.slice F fs.length cf, Value.int .i64 nx] 28)).cell? ⟨w1.heap.size, 1, none⟩ = some (Value.string who.2) := by rw [World.cell?_alloc_at _ _ _ _ rfl]; rfl
    have p2 : (w1.alloc (.cells #[Value.string who.1, Value.string who.2, Value.slice I is.length ci, Value.slice F fs.length cf, Value.int .i64 nx] 28)).cell? ⟨w1.heap.size, 2, none⟩ = some (Value.slice I is.length ci) := by rw [World.cell?_alloc_at _ _ _ _ rfl]; rfl
    have p3 : (w1.alloc (.cells #[Value.string who.1, Value.string who.2, Value.slice I is.length ci, Value.slice F fs.length cf, Value.int .i64 nx] 28)).cell? ⟨w1.heap.size, 3, none⟩ = some (Value.slice F fs.length cf) := by rw [World.cell?_alloc_at _ _ _ _ rfl]; rfl
    have p4 : (w1.alloc (.cells #[Value.string who.1, Value.string who.2, Value.slice I is.length ci, Value.slice F fs.length cf, Value.int .i64 nx] 28)).cell? ⟨w1.heap.size, 4, none⟩ = some (Value.int .i64 nx) := by rw [World.cell?_alloc_at _ _ _ _ rfl]; rfl
    have hbs : (brB who is fs nx != brB who is fs nx) = false := by simp
    go_wp2_with fail
    generalize (w1.alloc (.cells #[Value.string who.1, Value.string who.2, Value.slice I is.length ci, Value.slice F fs.length cf, Value.int .i64 nx] 28)) = wB at *
    refine (implBridgeValid_any who I ci is F cf fs nx wB w1.heap.size (rI.below bB) (rF.below bB) bB.size (by omega) (by omega) hcI HIZ.out HFZ.out (sz9 hw0) (sz9 hw1)).mono ?_
    rintro e w2 ⟨rfl, b2⟩
    have k2 := bB.trans (b2.mono bB.size)
    have z2 : w1.heap.size < w2.heap.size := by have := b2.size; omega
    have q0 := (b2.cell (p := ⟨w1.heap.size, 0, none⟩) (by show w1.heap.size < _; omega)).trans p0
    have q1 := (b2.cell (p := ⟨w1.heap.size, 1, none⟩) (by show w1.heap.size < _; omega)).trans p1
    have q2 := (b2.cell (p := ⟨w1.heap.size, 2, none⟩) (by show w1.heap.size < _; omega)).trans p2
    have q3 := (b2.cell (p := ⟨w1.heap.size, 3, none⟩) (by show w1.heap.size < _; omega)).trans p3
    have q4 := (b2.cell (p := ⟨w1.heap.size, 4, none⟩) (by show w1.heap.size < _; omega)).trans p4
    go_wp2_with fail
    refine (specBridgeValid_any who I ci is F cf fs nx w2 w1.heap.size (rI.below k2) (rF.below k2) k2.size (by omega) (by omega) HIZ.out HFZ.out (sz9 hw0) (sz9 hw1)).mono ?_
    rintro e w3 ⟨rfl, b3⟩
    have k3 := k2.trans (b3.mono k2.size)
    have z3 : w1.heap.size < w3.heap.size := by have := b3.size; omega
    have s0 := (b3.cell (p := ⟨w1.heap.size, 0, none⟩) (by show w1.heap.size < _; omega)).trans q0
    have s1 := (b3.cell (p := ⟨w1.heap.size, 1, none⟩) (by show w1.heap.size < _; omega)).trans q1
    have s2 := (b3.cell (p := ⟨w1.heap.size, 2, none⟩) (by show w1.heap.size < _; omega)).trans q2
    have s3 := (b3.cell (p := ⟨w1.heap.size, 3, none⟩) (by show w1.heap.size < _; omega)).trans q3
    have s4 := (b3.cell (p := ⟨w1.heap.size, 4, none⟩) (by show w1.heap.size < _; omega)).trans q4
    clear p0 p1 p2 p3 p4 q0 q1 q2 q3 q4
    have hz : brB ({ data := #[] }, { data := #[] }) is fs nx = false := brB_1 is fs nx (by rfl)
    have hcall := fun W h h2 hB => implBridgeValid_any ({ data := #[] }, { data := #[] }) I ci is F cf fs nx W w1.heap.size h h2 hB (by omega) (by omega) hcI HIZ.out HFZ.out (by simp only [maxLen]; decide) (by simp only [maxLen]; decide)
    rw [hz] at hcall
    have HC := Lib.hid hcall
    clear hcall hz
    by_cases hv : brB who is fs nx = true
    · obtain ⟨v1, v2, v3, v4⟩ := brB_of hv
      have hy : brB who [] fs nx = true := by unfold brB; rw [v1, v3, v4]; rfl
      have hcall := fun W h2 hB => implBridgeValid_any who none 0 [] F cf fs nx W w1.heap.size RdE.nil h2 hB (by simp) (by omega) (Nat.le_refl _) (fun k hk => by simp at hk) HFZ.out (sz9 hw0) (sz9 hw1)
      rw [hy] at hcall
      have HC2 := Lib.hid hcall
      clear hcall hy v1 v2 v3 v4
      go_wp2_with fail
      refine (HC.out w3 (rI.below k3) (rF.below k3) k3.size).mono ?_
      rintro e w4 ⟨rfl, b4⟩
      have k4 := k3.trans (b4.mono k3.size)
      have t0 := (b4.cell (p := ⟨w1.heap.size, 0, none⟩) (by show w1.heap.size < _; omega)).trans s0
      have t1 := (b4.cell (p := ⟨w1.heap.size, 1, none⟩) (by show w1.heap.size < _; omega)).trans s1
      have t2 := (b4.cell (p := ⟨w1.heap.size, 2, none⟩) (by show w1.heap.size < _; omega)).trans s2
      have t3 := (b4.cell (p := ⟨w1.heap.size, 3, none⟩) (by show w1.heap.size < _; omega)).trans s3
      have t4 := (b4.cell (p := ⟨w1.heap.size, 4, none⟩) (by show w1.heap.size < _; omega)).trans s4
      go_wp2_with fail
      refine (HC2.out w4 (rF.below k4) k4.size).mono ?_
      rintro e w5 ⟨rfl, b5⟩
      have k5 := k4.trans (b5.mono k4.size)
      go_wp2_with (go_at_call 8; refine (alive_any _).mono ?_; rintro e w' ⟨rfl, rfl⟩)
      go_ret
      exact ⟨rfl, hb1.trans (k5.mono hs1)⟩
    · have hv' : brB who is fs nx = false := by simpa using hv
      clear hv
      go_wp2_with fail
      refine (HC.out w3 (rI.below k3) (rF.below k3) k3.size).mono ?_
      rintro e w4 ⟨rfl, b4⟩
      have k4 := k3.trans (b4.mono k3.size)
      have t0 := (b4.cell (p := ⟨w1.heap.size, 0, none⟩) (by show w1.heap.size < _; omega)).trans s0
      have t1 := (b4.cell (p := ⟨w1.heap.size, 1, none⟩) (by show w1.heap.size < _; omega)).trans s1
      have t2 := (b4.cell (p := ⟨w1.heap.size, 2, none⟩) (by show w1.heap.size < _; omega)).trans s2
      have t3 := (b4.cell (p := ⟨w1.heap.size, 3, none⟩) (by show w1.heap.size < _; omega)).trans s3
      have t4 := (b4.cell (p := ⟨w1.heap.size, 4, none⟩) (by show w1.heap.size < _; omega)).trans s4
      go_wp2_with (go_at_call 8; refine (alive_any _).mono ?_; rintro e w' ⟨rfl, rfl⟩)
      go_ret
      exact ⟨rfl, hb1.trans (k4.mono hs1)⟩
  · have hd : decide (1048576 < (cs.length : Int)) = true := decide_eq_true (by omega)
    go_enter Try.func3, Try.ntmps3
    go_wp2
    go_ret
    exact ⟨rfl, Below.refl _ _⟩
end Go.Proofs.Ytfnmlffpnmmcdaa
