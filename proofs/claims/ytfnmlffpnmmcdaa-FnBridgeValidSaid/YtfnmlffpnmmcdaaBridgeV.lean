/- BridgeValid, walked. -/
import Derived.Test.YtfnmlffpnmmcdaaHandleV
import Derived.Test.YtfnmlffpnmmcdaaFeedB
import Derived.Test.YtfnmlffpnmmcdaaFollowA
namespace Go.Proofs.Ytfnmlffpnmmcdaa
open Go.RowKit
/-- BridgeValid's answer. -/
def brB (who : ElHandle) (is : List ElItem) (fs : List ElHandle) (nx : Int) : Bool := hvB who && (fdB is && (fvB fs && inB nx 0 1000000))
theorem brB_1 {who : ElHandle} (is : List ElItem) (fs : List ElHandle) (nx : Int) (h : hvB who = false) : brB who is fs nx = false := by unfold brB; rw [h]; rfl
theorem brB_2 (who : ElHandle) {is : List ElItem} (fs : List ElHandle) (nx : Int) (h : fdB is = false) : brB who is fs nx = false := by unfold brB; rw [h]; simp
theorem brB_3 (who : ElHandle) (is : List ElItem) {fs : List ElHandle} (nx : Int) (h : fvB fs = false) : brB who is fs nx = false := by unfold brB; rw [h]; simp
theorem brB_4 {who : ElHandle} {is : List ElItem} {fs : List ElHandle} (nx : Int) (h1 : hvB who = true) (h2 : fdB is = true) (h3 : fvB fs = true) : brB who is fs nx = inB nx 0 1000000 := by unfold brB; rw [h1, h2, h3]; rfl
theorem brB_of {who : ElHandle} {is : List ElItem} {fs : List ElHandle} {nx : Int} (h : brB who is fs nx = true) : hvB who = true ∧ fdB is = true ∧ fvB fs = true ∧ inB nx 0 1000000 = true := by
  unfold brB at h; simp only [Bool.and_eq_true] at h; exact h
set_option maxHeartbeats 1600000 in
theorem implBridgeValid_any (who : ElHandle) (I : Option Addr) (ci : Nat) (is : List ElItem) (F : Option Addr) (cf : Nat) (fs : List ElHandle) (nx : Int) (w : World) (B : Nat) (hI : RdE 4 encItem w B I is) (hF : RdE 2 encHandle w B F fs) (hB : B ≤ w.heap.size) (hl : is.length ≤ 140737488351232) (hlf : fs.length ≤ 140737488351232) (hci : is.length ≤ ci) (hiz : ∀ k, k < is.length → (gt is k).1.size ≤ maxLen ∧ (gt is k).2.1.size ≤ maxLen ∧ (gt is k).2.2.1.size ≤ maxLen) (hfz : ∀ k, k < fs.length → (gt fs k).1.size ≤ maxLen ∧ (gt fs k).2.size ≤ maxLen) (hw0 : who.1.size ≤ maxLen) (hw1 : who.2.size ≤ maxLen) :
    Calls Try.prog 6 #[.agg #[.string who.1, .string who.2, .slice I is.length ci, .slice F fs.length cf, .int .i64 nx]] w fun e w' => e = .returned (.bool (brB who is fs nx)) ∧ Below w.heap.size w w' := by
  have HIZ := Lib.hid hiz
  have HFZ := Lib.hid hfz
  clear hiz hfz
  have hbA : Below w.heap.size w (w.alloc (.cells #[Value.string who.1, Value.string who.2, Value.slice I is.length ci, Value.slice F fs.length cf, Value.int .i64 nx] 28)) := (Below.refl _ _).alloc (Nat.le_refl _) _
  have hzA : w.heap.size < (w.alloc (.cells #[Value.string who.1, Value.string who.2, Value.slice I is.length ci, Value.slice F fs.length cf, Value.int .i64 nx] 28)).heap.size := by simp
  have q0 : (w.alloc (.cells #[Value.string who.1, Value.string who.2, Value.slice I is.length ci, Value.slice F fs.length cf, Value.int .i64 nx] 28)).cell? ⟨w.heap.size, 0, none⟩ = some (Value.string who.1) := by rw [World.cell?_alloc_at _ _ _ _ rfl]; rfl
  have q1 : (w.alloc (.cells #[Value.string who.1, Value.string who.2, Value.slice I is.length ci, Value.slice F fs.length cf, Value.int .i64 nx] 28)).cell? ⟨w.heap.size, 1, none⟩ = some (Value.string who.2) := by rw [World.cell?_alloc_at _ _ _ _ rfl]; rfl
  have q2 : (w.alloc (.cells #[Value.string who.1, Value.string who.2, Value.slice I is.length ci, Value.slice F fs.length cf, Value.int .i64 nx] 28)).cell? ⟨w.heap.size, 2, none⟩ = some (Value.slice I is.length ci) := by rw [World.cell?_alloc_at _ _ _ _ rfl]; rfl
  have q3 : (w.alloc (.cells #[Value.string who.1, Value.string who.2, Value.slice I is.length ci, Value.slice F fs.length cf, Value.int .i64 nx] 28)).cell? ⟨w.heap.size, 3, none⟩ = some (Value.slice F fs.length cf) := by rw [World.cell?_alloc_at _ _ _ _ rfl]; rfl
  have q4 : (w.alloc (.cells #[Value.string who.1, Value.string who.2, Value.slice I is.length ci, Value.slice F fs.length cf, Value.int .i64 nx] 28)).cell? ⟨w.heap.size, 4, none⟩ = some (Value.int .i64 nx) := by rw [World.cell?_alloc_at _ _ _ _ rfl]; rfl
  have hcall := fun W => implHandleValid_b who.1 who.2 W hw0 hw1
  rw [show (who.1, who.2) = who from rfl] at hcall
  cases h1 : hvB who
  · have HQ := Lib.hid (brB_1 is fs nx h1)
    rw [h1] at hcall
    have HC := Lib.hid hcall
    clear hcall h1
    go_enter Try.func6, Try.ntmps6
    go_wp2_with fail
    generalize (w.alloc (.cells #[Value.string who.1, Value.string who.2, Value.slice I is.length ci, Value.slice F fs.length cf, Value.int .i64 nx] 28)) = wA at *
    refine (HC.out wA).mono ?_
    rintro e w1 ⟨rfl, b1⟩
    have k1 := hbA.trans (b1.mono hbA.size)
    have z1 : w.heap.size < w1.heap.size := by have := b1.size; omega
    have q2' := (b1.cell (p := ⟨w.heap.size, 2, none⟩) (by show w.heap.size < _; omega)).trans q2
    have q3' := (b1.cell (p := ⟨w.heap.size, 3, none⟩) (by show w.heap.size < _; omega)).trans q3
    have q4' := (b1.cell (p := ⟨w.heap.size, 4, none⟩) (by show w.heap.size < _; omega)).trans q4
    go_wp2_with fail
    go_ret
    exact ⟨ret_bool HQ.out.symm, k1⟩
  · rw [h1] at hcall
    have HC := Lib.hid hcall
    clear hcall
    have hcall := fun W h hB => implFeedValid_any I ci B is W h hB hl hci HIZ.out
    cases h2 : fdB is
    · have HQ := Lib.hid (brB_2 who fs nx h2)
      rw [h2] at hcall
      have HC2 := Lib.hid hcall
      clear hcall h1 h2
      go_enter Try.func6, Try.ntmps6
      go_wp2_with fail
      generalize (w.alloc (.cells #[Value.string who.1, Value.string who.2, Value.slice I is.length ci, Value.slice F fs.length cf, Value.int .i64 nx] 28)) = wA at *
      refine (HC.out wA).mono ?_
      rintro e w1 ⟨rfl, b1⟩
      have k1 := hbA.trans (b1.mono hbA.size)
      have z1 : w.heap.size < w1.heap.size := by have := b1.size; omega
      have q2' := (b1.cell (p := ⟨w.heap.size, 2, none⟩) (by show w.heap.size < _; omega)).trans q2
      have q3' := (b1.cell (p := ⟨w.heap.size, 3, none⟩) (by show w.heap.size < _; omega)).trans q3
      have q4' := (b1.cell (p := ⟨w.heap.size, 4, none⟩) (by show w.heap.size < _; omega)).trans q4
      go_wp2_with fail
      refine (HC2.out w1 (hI.below (k1.mono hB)) (Nat.le_trans hB k1.size)).mono ?_
      rintro e w2 ⟨rfl, b2⟩
      have k2 := k1.trans (b2.mono k1.size)
      have z2 : w.heap.size < w2.heap.size := by have := b2.size; omega
      have q3'' := (b2.cell (p := ⟨w.heap.size, 3, none⟩) (by show w.heap.size < _; omega)).trans q3'
      have q4'' := (b2.cell (p := ⟨w.heap.size, 4, none⟩) (by show w.heap.size < _; omega)).trans q4'
      go_wp2_with fail
      go_ret
      exact ⟨ret_bool HQ.out.symm, k2⟩
    · rw [h2] at hcall
      have HC2 := Lib.hid hcall
      clear hcall
      have hcall := fun W h hB => implFollowersValid_any F cf B fs W h hB hlf HFZ.out
      cases h3 : fvB fs
      · have HQ := Lib.hid (brB_3 who is nx h3)
        rw [h3] at hcall
        have HC3 := Lib.hid hcall
        clear hcall h1 h2 h3
        go_enter Try.func6, Try.ntmps6
        go_wp2_with fail
        generalize (w.alloc (.cells #[Value.string who.1, Value.string who.2, Value.slice I is.length ci, Value.slice F fs.length cf, Value.int .i64 nx] 28)) = wA at *
        refine (HC.out wA).mono ?_
        rintro e w1 ⟨rfl, b1⟩
        have k1 := hbA.trans (b1.mono hbA.size)
        have z1 : w.heap.size < w1.heap.size := by have := b1.size; omega
        have q2' := (b1.cell (p := ⟨w.heap.size, 2, none⟩) (by show w.heap.size < _; omega)).trans q2
        have q3' := (b1.cell (p := ⟨w.heap.size, 3, none⟩) (by show w.heap.size < _; omega)).trans q3
        have q4' := (b1.cell (p := ⟨w.heap.size, 4, none⟩) (by show w.heap.size < _; omega)).trans q4
        go_wp2_with fail
        refine (HC2.out w1 (hI.below (k1.mono hB)) (Nat.le_trans hB k1.size)).mono ?_
        rintro e w2 ⟨rfl, b2⟩
        have k2 := k1.trans (b2.mono k1.size)
        have z2 : w.heap.size < w2.heap.size := by have := b2.size; omega
        have q3'' := (b2.cell (p := ⟨w.heap.size, 3, none⟩) (by show w.heap.size < _; omega)).trans q3'
        have q4'' := (b2.cell (p := ⟨w.heap.size, 4, none⟩) (by show w.heap.size < _; omega)).trans q4'
        go_wp2_with fail
        refine (HC3.out w2 (hF.below (k2.mono hB)) (Nat.le_trans hB k2.size)).mono ?_
        rintro e w3 ⟨rfl, b3⟩
        have k3 := k2.trans (b3.mono k2.size)
        have q4x := (b3.cell (p := ⟨w.heap.size, 4, none⟩) (by show w.heap.size < _; omega)).trans q4''
        go_wp2_with fail
        go_ret
        exact ⟨ret_bool HQ.out.symm, k3⟩
      · have HQ := Lib.hid (brB_4 nx h1 h2 h3)
        rw [h3] at hcall
        have HC3 := Lib.hid hcall
        clear hcall h1 h2 h3
        go_enter Try.func6, Try.ntmps6
        go_wp2_with fail
        generalize (w.alloc (.cells #[Value.string who.1, Value.string who.2, Value.slice I is.length ci, Value.slice F fs.length cf, Value.int .i64 nx] 28)) = wA at *
        refine (HC.out wA).mono ?_
        rintro e w1 ⟨rfl, b1⟩
        have k1 := hbA.trans (b1.mono hbA.size)
        have z1 : w.heap.size < w1.heap.size := by have := b1.size; omega
        have q2' := (b1.cell (p := ⟨w.heap.size, 2, none⟩) (by show w.heap.size < _; omega)).trans q2
        have q3' := (b1.cell (p := ⟨w.heap.size, 3, none⟩) (by show w.heap.size < _; omega)).trans q3
        have q4' := (b1.cell (p := ⟨w.heap.size, 4, none⟩) (by show w.heap.size < _; omega)).trans q4
        go_wp2_with fail
        refine (HC2.out w1 (hI.below (k1.mono hB)) (Nat.le_trans hB k1.size)).mono ?_
        rintro e w2 ⟨rfl, b2⟩
        have k2 := k1.trans (b2.mono k1.size)
        have z2 : w.heap.size < w2.heap.size := by have := b2.size; omega
        have q3'' := (b2.cell (p := ⟨w.heap.size, 3, none⟩) (by show w.heap.size < _; omega)).trans q3'
        have q4'' := (b2.cell (p := ⟨w.heap.size, 4, none⟩) (by show w.heap.size < _; omega)).trans q4'
        go_wp2_with fail
        refine (HC3.out w2 (hF.below (k2.mono hB)) (Nat.le_trans hB k2.size)).mono ?_
        rintro e w3 ⟨rfl, b3⟩
        have k3 := k2.trans (b3.mono k2.size)
        have q4x := (b3.cell (p := ⟨w.heap.size, 4, none⟩) (by show w.heap.size < _; omega)).trans q4''
        go_wp2_with (go_at_call 17; refine (within_any _ _ _ _).mono ?_; rintro e w' ⟨rfl, rfl⟩)
        go_ret
        exact ⟨ret_bool HQ.out.symm, k3⟩
set_option maxHeartbeats 1600000 in
theorem specBridgeValid_any (who : ElHandle) (I : Option Addr) (ci : Nat) (is : List ElItem) (F : Option Addr) (cf : Nat) (fs : List ElHandle) (nx : Int) (w : World) (B : Nat) (hI : RdE 4 encItem w B I is) (hF : RdE 2 encHandle w B F fs) (hB : B ≤ w.heap.size) (hl : is.length ≤ 140737488351232) (hlf : fs.length ≤ 140737488351232) (hiz : ∀ k, k < is.length → (gt is k).1.size ≤ maxLen ∧ (gt is k).2.1.size ≤ maxLen ∧ (gt is k).2.2.1.size ≤ maxLen) (hfz : ∀ k, k < fs.length → (gt fs k).1.size ≤ maxLen ∧ (gt fs k).2.size ≤ maxLen) (hw0 : who.1.size ≤ maxLen) (hw1 : who.2.size ≤ maxLen) :
    Calls Try.prog 7 #[.agg #[.string who.1, .string who.2, .slice I is.length ci, .slice F fs.length cf, .int .i64 nx]] w fun e w' => e = .returned (.bool (brB who is fs nx)) ∧ Below w.heap.size w w' := by
  have HIZ := Lib.hid hiz
  have HFZ := Lib.hid hfz
  clear hiz hfz
  have hbA : Below w.heap.size w (w.alloc (.cells #[Value.string who.1, Value.string who.2, Value.slice I is.length ci, Value.slice F fs.length cf, Value.int .i64 nx] 28)) := (Below.refl _ _).alloc (Nat.le_refl _) _
  have hzA : w.heap.size < (w.alloc (.cells #[Value.string who.1, Value.string who.2, Value.slice I is.length ci, Value.slice F fs.length cf, Value.int .i64 nx] 28)).heap.size := by simp
  have q0 : (w.alloc (.cells #[Value.string who.1, Value.string who.2, Value.slice I is.length ci, Value.slice F fs.length cf, Value.int .i64 nx] 28)).cell? ⟨w.heap.size, 0, none⟩ = some (Value.string who.1) := by rw [World.cell?_alloc_at _ _ _ _ rfl]; rfl
  have q1 : (w.alloc (.cells #[Value.string who.1, Value.string who.2, Value.slice I is.length ci, Value.slice F fs.length cf, Value.int .i64 nx] 28)).cell? ⟨w.heap.size, 1, none⟩ = some (Value.string who.2) := by rw [World.cell?_alloc_at _ _ _ _ rfl]; rfl
  have q2 : (w.alloc (.cells #[Value.string who.1, Value.string who.2, Value.slice I is.length ci, Value.slice F fs.length cf, Value.int .i64 nx] 28)).cell? ⟨w.heap.size, 2, none⟩ = some (Value.slice I is.length ci) := by rw [World.cell?_alloc_at _ _ _ _ rfl]; rfl
  have q3 : (w.alloc (.cells #[Value.string who.1, Value.string who.2, Value.slice I is.length ci, Value.slice F fs.length cf, Value.int .i64 nx] 28)).cell? ⟨w.heap.size, 3, none⟩ = some (Value.slice F fs.length cf) := by rw [World.cell?_alloc_at _ _ _ _ rfl]; rfl
  have q4 : (w.alloc (.cells #[Value.string who.1, Value.string who.2, Value.slice I is.length ci, Value.slice F fs.length cf, Value.int .i64 nx] 28)).cell? ⟨w.heap.size, 4, none⟩ = some (Value.int .i64 nx) := by rw [World.cell?_alloc_at _ _ _ _ rfl]; rfl
  have hcall := fun W => specHandleValid_b who.1 who.2 W hw0 hw1
  rw [show (who.1, who.2) = who from rfl] at hcall
  cases h1 : hvB who
  · have HQ := Lib.hid (brB_1 is fs nx h1)
    rw [h1] at hcall
    have HC := Lib.hid hcall
    clear hcall h1
    go_enter Try.func7, Try.ntmps7
    go_wp2_with fail
    generalize (w.alloc (.cells #[Value.string who.1, Value.string who.2, Value.slice I is.length ci, Value.slice F fs.length cf, Value.int .i64 nx] 28)) = wA at *
    refine (HC.out wA).mono ?_
    rintro e w1 ⟨rfl, b1⟩
    have k1 := hbA.trans (b1.mono hbA.size)
    have z1 : w.heap.size < w1.heap.size := by have := b1.size; omega
    have q2' := (b1.cell (p := ⟨w.heap.size, 2, none⟩) (by show w.heap.size < _; omega)).trans q2
    have q3' := (b1.cell (p := ⟨w.heap.size, 3, none⟩) (by show w.heap.size < _; omega)).trans q3
    have q4' := (b1.cell (p := ⟨w.heap.size, 4, none⟩) (by show w.heap.size < _; omega)).trans q4
    go_wp2_with fail
    go_ret
    exact ⟨ret_bool HQ.out.symm, k1⟩
  · rw [h1] at hcall
    have HC := Lib.hid hcall
    clear hcall
    have hcall := fun W h hB => specFeedValid_any I ci B is W h hB hl HIZ.out
    cases h2 : fdB is
    · have HQ := Lib.hid (brB_2 who fs nx h2)
      rw [h2] at hcall
      have HC2 := Lib.hid hcall
      clear hcall h1 h2
      go_enter Try.func7, Try.ntmps7
      go_wp2_with fail
      generalize (w.alloc (.cells #[Value.string who.1, Value.string who.2, Value.slice I is.length ci, Value.slice F fs.length cf, Value.int .i64 nx] 28)) = wA at *
      refine (HC.out wA).mono ?_
      rintro e w1 ⟨rfl, b1⟩
      have k1 := hbA.trans (b1.mono hbA.size)
      have z1 : w.heap.size < w1.heap.size := by have := b1.size; omega
      have q2' := (b1.cell (p := ⟨w.heap.size, 2, none⟩) (by show w.heap.size < _; omega)).trans q2
      have q3' := (b1.cell (p := ⟨w.heap.size, 3, none⟩) (by show w.heap.size < _; omega)).trans q3
      have q4' := (b1.cell (p := ⟨w.heap.size, 4, none⟩) (by show w.heap.size < _; omega)).trans q4
      go_wp2_with fail
      refine (HC2.out w1 (hI.below (k1.mono hB)) (Nat.le_trans hB k1.size)).mono ?_
      rintro e w2 ⟨rfl, b2⟩
      have k2 := k1.trans (b2.mono k1.size)
      have z2 : w.heap.size < w2.heap.size := by have := b2.size; omega
      have q3'' := (b2.cell (p := ⟨w.heap.size, 3, none⟩) (by show w.heap.size < _; omega)).trans q3'
      have q4'' := (b2.cell (p := ⟨w.heap.size, 4, none⟩) (by show w.heap.size < _; omega)).trans q4'
      go_wp2_with fail
      go_ret
      exact ⟨ret_bool HQ.out.symm, k2⟩
    · rw [h2] at hcall
      have HC2 := Lib.hid hcall
      clear hcall
      have hcall := fun W h hB => specFollowersValid_any F cf B fs W h hB hlf HFZ.out
      cases h3 : fvB fs
      · have HQ := Lib.hid (brB_3 who is nx h3)
        rw [h3] at hcall
        have HC3 := Lib.hid hcall
        clear hcall h1 h2 h3
        go_enter Try.func7, Try.ntmps7
        go_wp2_with fail
        generalize (w.alloc (.cells #[Value.string who.1, Value.string who.2, Value.slice I is.length ci, Value.slice F fs.length cf, Value.int .i64 nx] 28)) = wA at *
        refine (HC.out wA).mono ?_
        rintro e w1 ⟨rfl, b1⟩
        have k1 := hbA.trans (b1.mono hbA.size)
        have z1 : w.heap.size < w1.heap.size := by have := b1.size; omega
        have q2' := (b1.cell (p := ⟨w.heap.size, 2, none⟩) (by show w.heap.size < _; omega)).trans q2
        have q3' := (b1.cell (p := ⟨w.heap.size, 3, none⟩) (by show w.heap.size < _; omega)).trans q3
        have q4' := (b1.cell (p := ⟨w.heap.size, 4, none⟩) (by show w.heap.size < _; omega)).trans q4
        go_wp2_with fail
        refine (HC2.out w1 (hI.below (k1.mono hB)) (Nat.le_trans hB k1.size)).mono ?_
        rintro e w2 ⟨rfl, b2⟩
        have k2 := k1.trans (b2.mono k1.size)
        have z2 : w.heap.size < w2.heap.size := by have := b2.size; omega
        have q3'' := (b2.cell (p := ⟨w.heap.size, 3, none⟩) (by show w.heap.size < _; omega)).trans q3'
        have q4'' := (b2.cell (p := ⟨w.heap.size, 4, none⟩) (by show w.heap.size < _; omega)).trans q4'
        go_wp2_with fail
        refine (HC3.out w2 (hF.below (k2.mono hB)) (Nat.le_trans hB k2.size)).mono ?_
        rintro e w3 ⟨rfl, b3⟩
        have k3 := k2.trans (b3.mono k2.size)
        have q4x := (b3.cell (p := ⟨w.heap.size, 4, none⟩) (by show w.heap.size < _; omega)).trans q4''
        go_wp2_with fail
        go_ret
        exact ⟨ret_bool HQ.out.symm, k3⟩
      · have HQ := Lib.hid (brB_4 nx h1 h2 h3)
        rw [h3] at hcall
        have HC3 := Lib.hid hcall
        clear hcall h1 h2 h3
        go_enter Try.func7, Try.ntmps7
        go_wp2_with fail
        generalize (w.alloc (.cells #[Value.string who.1, Value.string who.2, Value.slice I is.length ci, Value.slice F fs.length cf, Value.int .i64 nx] 28)) = wA at *
        refine (HC.out wA).mono ?_
        rintro e w1 ⟨rfl, b1⟩
        have k1 := hbA.trans (b1.mono hbA.size)
        have z1 : w.heap.size < w1.heap.size := by have := b1.size; omega
        have q2' := (b1.cell (p := ⟨w.heap.size, 2, none⟩) (by show w.heap.size < _; omega)).trans q2
        have q3' := (b1.cell (p := ⟨w.heap.size, 3, none⟩) (by show w.heap.size < _; omega)).trans q3
        have q4' := (b1.cell (p := ⟨w.heap.size, 4, none⟩) (by show w.heap.size < _; omega)).trans q4
        go_wp2_with fail
        refine (HC2.out w1 (hI.below (k1.mono hB)) (Nat.le_trans hB k1.size)).mono ?_
        rintro e w2 ⟨rfl, b2⟩
        have k2 := k1.trans (b2.mono k1.size)
        have z2 : w.heap.size < w2.heap.size := by have := b2.size; omega
        have q3'' := (b2.cell (p := ⟨w.heap.size, 3, none⟩) (by show w.heap.size < _; omega)).trans q3'
        have q4'' := (b2.cell (p := ⟨w.heap.size, 4, none⟩) (by show w.heap.size < _; omega)).trans q4'
        go_wp2_with fail
        refine (HC3.out w2 (hF.below (k2.mono hB)) (Nat.le_trans hB k2.size)).mono ?_
        rintro e w3 ⟨rfl, b3⟩
        have k3 := k2.trans (b3.mono k2.size)
        have q4x := (b3.cell (p := ⟨w.heap.size, 4, none⟩) (by show w.heap.size < _; omega)).trans q4''
        go_wp2_with (go_at_call 21; refine (l1In_any _ _ _ _).mono ?_; rintro e w' ⟨rfl, rfl⟩)
        go_ret
        exact ⟨ret_bool HQ.out.symm, k3⟩
end Go.Proofs.Ytfnmlffpnmmcdaa
