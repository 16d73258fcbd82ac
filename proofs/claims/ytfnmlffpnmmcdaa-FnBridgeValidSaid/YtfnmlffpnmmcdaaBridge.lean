/- What the statements do with bridges: the copy, the size, the comparison. -/
import Derived.Test.YtfnmlffpnmmcdaaItem
import Derived.Test.YtfnmlffpnmmcdaaHandle
namespace Go.Proofs.Ytfnmlffpnmmcdaa
open Go.RowKit
theorem set_grown (w : World) (b o : Nat) (u : Value) : w.grownBy (w.setCell ⟨b, o, none⟩ u) (some b) :=
  ⟨rfl, rfl, rfl, by simp, fun i _ hne => Below.heap_setCell w ⟨b, o, none⟩ u i (fun e => hne (by rw [e]))⟩
theorem own_set {w : World} {base e sz n cap : Nat} {A : Option Addr} {f : Nat → Value} (h : Own w base e sz A n cap f) (b o : Nat) (u : Value) (hb : b < base) : Own (w.setCell ⟨b, o, none⟩ u) base e sz A n cap f :=
  Own.kept h (set_grown w b o u) (by
    cases hA : blk A with
    | none => exact .inl rfl
    | some c => exact .inr (fun e => by injection e with e; have := (Own.lt h hA).1; omega))
theorem bcell {W w1 : World} (hb : Below W.heap.size W w1) : (∀ b o, b < W.heap.size → w1.cell? ⟨b, o, none⟩ = W.cell? ⟨b, o, none⟩) ∧ (∀ b o, b < W.heap.size → w1.frozen? ⟨b, o, none⟩ = W.frozen? ⟨b, o, none⟩) :=
  ⟨fun b o h => hb.cell (p := ⟨b, o, none⟩) h, fun b o h => hb.frozen (p := ⟨b, o, none⟩) h⟩
theorem info_Bridge : (Try.prog.info? 28).map (fun i => (i.zero, i.size, i.bytes)) = some (some (.agg #[.string ByteArray.empty, .string ByteArray.empty, .slice none 0 0, .slice none 0 0, .int .i64 0]), 5, 88) := by kernel_rfl
/-- How much a bridge holds. -/
def byBridge (who : ElHandle) (is : List ElItem) (fs : List ElHandle) : Nat := byHandle who + totItem is + totHandle fs
set_option maxHeartbeats 800000 in
theorem szBridge_any (who : ElHandle) (I : Option Addr) (ci : Nat) (is : List ElItem) (F : Option Addr) (cf : Nat) (fs : List ElHandle) (nx : Int) (left : Int) (w : World) (B : Nat) (hI : RdE 4 encItem w B I is) (hF : RdE 2 encHandle w B F fs) (hB : B ≤ w.heap.size) (hl : is.length ≤ 9223372036854775807) (hlf : fs.length ≤ 9223372036854775807) (hiz : ∀ k, k < is.length → (gt is k).1.size ≤ maxLen ∧ (gt is k).2.1.size ≤ maxLen ∧ (gt is k).2.2.1.size ≤ maxLen) (hfz : ∀ k, k < fs.length → (gt fs k).1.size ≤ maxLen ∧ (gt fs k).2.size ≤ maxLen) (hw0 : who.1.size ≤ maxLen) (hw1 : who.2.size ≤ maxLen) (h0 : 0 ≤ left) (h1 : left ≤ 1048576) :
    Calls Try.prog 9 #[.agg #[.string who.1, .string who.2, .slice I is.length ci, .slice F fs.length cf, .int .i64 nx], .int .i64 left] w fun e w' => e = .returned (.int .i64 (szL left (byBridge who is fs))) ∧ Below w.heap.size w w' := by
  have HIZ := Lib.hid hiz
  have HFZ := Lib.hid hfz
  clear hiz hfz
  have hbA : Below w.heap.size w (w.alloc (.cells #[Value.string who.1, Value.string who.2, Value.slice I is.length ci, Value.slice F fs.length cf, Value.int .i64 nx] 37)) := (Below.refl _ _).alloc (Nat.le_refl _) _
  have hzA : w.heap.size < (w.alloc (.cells #[Value.string who.1, Value.string who.2, Value.slice I is.length ci, Value.slice F fs.length cf, Value.int .i64 nx] 37)).heap.size := by simp
  have q0 : (w.alloc (.cells #[Value.string who.1, Value.string who.2, Value.slice I is.length ci, Value.slice F fs.length cf, Value.int .i64 nx] 37)).cell? ⟨w.heap.size, 0, none⟩ = some (Value.string who.1) := by rw [World.cell?_alloc_at _ _ _ _ rfl]; rfl
  have q1 : (w.alloc (.cells #[Value.string who.1, Value.string who.2, Value.slice I is.length ci, Value.slice F fs.length cf, Value.int .i64 nx] 37)).cell? ⟨w.heap.size, 1, none⟩ = some (Value.string who.2) := by rw [World.cell?_alloc_at _ _ _ _ rfl]; rfl
  have q2 : (w.alloc (.cells #[Value.string who.1, Value.string who.2, Value.slice I is.length ci, Value.slice F fs.length cf, Value.int .i64 nx] 37)).cell? ⟨w.heap.size, 2, none⟩ = some (Value.slice I is.length ci) := by rw [World.cell?_alloc_at _ _ _ _ rfl]; rfl
  have q3 : (w.alloc (.cells #[Value.string who.1, Value.string who.2, Value.slice I is.length ci, Value.slice F fs.length cf, Value.int .i64 nx] 37)).cell? ⟨w.heap.size, 3, none⟩ = some (Value.slice F fs.length cf) := by rw [World.cell?_alloc_at _ _ _ _ rfl]; rfl
  have q4 : (w.alloc (.cells #[Value.string who.1, Value.string who.2, Value.slice I is.length ci, Value.slice F fs.length cf, Value.int .i64 nx] 37)).cell? ⟨w.heap.size, 4, none⟩ = some (Value.int .i64 nx) := by rw [World.cell?_alloc_at _ _ _ _ rfl]; rfl
  have hcall := fun W => szHandle_any who.1 who.2 left W h0 h1 hw0 hw1
  rw [show who.1.size + who.2.size = byHandle who from rfl] at hcall
  by_cases z0 : (byHandle who : Int) ≤ left
  · rw [szL_yes z0] at hcall
    have HC := Lib.hid hcall
    clear hcall
    have hcall := fun W h hB => szItemS_any I ci B is (left - (byHandle who : Int)) W h hB hl HIZ.out (by omega) (by omega)
    by_cases z1 : (totItem is : Int) ≤ left - (byHandle who : Int)
    · rw [szL_yes z1] at hcall
      have HC2 := Lib.hid hcall
      clear hcall
      have hcall := fun W h hB => szHandleS_any F cf B fs (left - (byHandle who : Int) - (totItem is : Int)) W h hB hlf HFZ.out (by omega) (by omega)
      by_cases z2 : (totHandle fs : Int) ≤ left - (byHandle who : Int) - (totItem is : Int)
      · rw [szL_yes z2] at hcall
        have HC3 := Lib.hid hcall
        clear hcall
        have HQ := Lib.hid (show szL left (byBridge who is fs) = left - (byHandle who : Int) - (totItem is : Int) - (totHandle fs : Int) by rw [szL_yes (by unfold byBridge; omega)]; unfold byBridge; omega)
        go_enter Try.func9, Try.ntmps9
        go_wp2_with fail
        generalize (w.alloc (.cells #[Value.string who.1, Value.string who.2, Value.slice I is.length ci, Value.slice F fs.length cf, Value.int .i64 nx] 37)) = wA at *
        refine (HC.out wA).mono ?_
        rintro e w1 ⟨rfl, b1⟩
        have c1 := hbA.trans (b1.mono (by omega))
        have r0 := (b1.cell (p := ⟨w.heap.size, 0, none⟩) (by show w.heap.size < _; omega)).trans q0
        have r1 := (b1.cell (p := ⟨w.heap.size, 1, none⟩) (by show w.heap.size < _; omega)).trans q1
        have r2 := (b1.cell (p := ⟨w.heap.size, 2, none⟩) (by show w.heap.size < _; omega)).trans q2
        have r3 := (b1.cell (p := ⟨w.heap.size, 3, none⟩) (by show w.heap.size < _; omega)).trans q3
        have r4 := (b1.cell (p := ⟨w.heap.size, 4, none⟩) (by show w.heap.size < _; omega)).trans q4
        have hz1 := b1.size
        go_wp2_with fail
        refine (HC2.out w1 (hI.below (c1.mono hB)) (Nat.le_trans hB c1.size)).mono ?_
        rintro e w2 ⟨rfl, b2⟩
        have c2 := c1.trans (b2.mono c1.size)
        have s0 := (b2.cell (p := ⟨w.heap.size, 0, none⟩) (by show w.heap.size < _; omega)).trans r0
        have s1 := (b2.cell (p := ⟨w.heap.size, 1, none⟩) (by show w.heap.size < _; omega)).trans r1
        have s2 := (b2.cell (p := ⟨w.heap.size, 2, none⟩) (by show w.heap.size < _; omega)).trans r2
        have s3 := (b2.cell (p := ⟨w.heap.size, 3, none⟩) (by show w.heap.size < _; omega)).trans r3
        have s4 := (b2.cell (p := ⟨w.heap.size, 4, none⟩) (by show w.heap.size < _; omega)).trans r4
        go_wp2_with fail
        refine (HC3.out w2 (hF.below (c2.mono hB)) (Nat.le_trans hB c2.size)).mono ?_
        rintro e w3 ⟨rfl, b3⟩
        go_wp2_with fail
        go_ret
        exact ⟨ret_int HQ.out.symm, c2.trans (b3.mono c2.size)⟩
      · rw [szL_no (by omega)] at hcall
        have HC3 := Lib.hid hcall
        clear hcall
        have HQ := Lib.hid (show szL left (byBridge who is fs) = -1 from szL_no (by unfold byBridge; omega))
        go_enter Try.func9, Try.ntmps9
        go_wp2_with fail
        generalize (w.alloc (.cells #[Value.string who.1, Value.string who.2, Value.slice I is.length ci, Value.slice F fs.length cf, Value.int .i64 nx] 37)) = wA at *
        refine (HC.out wA).mono ?_
        rintro e w1 ⟨rfl, b1⟩
        have c1 := hbA.trans (b1.mono (by omega))
        have r0 := (b1.cell (p := ⟨w.heap.size, 0, none⟩) (by show w.heap.size < _; omega)).trans q0
        have r1 := (b1.cell (p := ⟨w.heap.size, 1, none⟩) (by show w.heap.size < _; omega)).trans q1
        have r2 := (b1.cell (p := ⟨w.heap.size, 2, none⟩) (by show w.heap.size < _; omega)).trans q2
        have r3 := (b1.cell (p := ⟨w.heap.size, 3, none⟩) (by show w.heap.size < _; omega)).trans q3
        have r4 := (b1.cell (p := ⟨w.heap.size, 4, none⟩) (by show w.heap.size < _; omega)).trans q4
        have hz1 := b1.size
        go_wp2_with fail
        refine (HC2.out w1 (hI.below (c1.mono hB)) (Nat.le_trans hB c1.size)).mono ?_
        rintro e w2 ⟨rfl, b2⟩
        have c2 := c1.trans (b2.mono c1.size)
        have s0 := (b2.cell (p := ⟨w.heap.size, 0, none⟩) (by show w.heap.size < _; omega)).trans r0
        have s1 := (b2.cell (p := ⟨w.heap.size, 1, none⟩) (by show w.heap.size < _; omega)).trans r1
        have s2 := (b2.cell (p := ⟨w.heap.size, 2, none⟩) (by show w.heap.size < _; omega)).trans r2
        have s3 := (b2.cell (p := ⟨w.heap.size, 3, none⟩) (by show w.heap.size < _; omega)).trans r3
        have s4 := (b2.cell (p := ⟨w.heap.size, 4, none⟩) (by show w.heap.size < _; omega)).trans r4
        go_wp2_with fail
        refine (HC3.out w2 (hF.below (c2.mono hB)) (Nat.le_trans hB c2.size)).mono ?_
        rintro e w3 ⟨rfl, b3⟩
        go_wp2_with fail
        go_ret
        exact ⟨ret_int HQ.out.symm, c2.trans (b3.mono c2.size)⟩
    · rw [szL_no (by omega)] at hcall
      have HC2 := Lib.hid hcall
      clear hcall
      have HQ := Lib.hid (show szL left (byBridge who is fs) = -1 from szL_no (by unfold byBridge; omega))
      go_enter Try.func9, Try.ntmps9
      go_wp2_with fail
      generalize (w.alloc (.cells #[Value.string who.1, Value.string who.2, Value.slice I is.length ci, Value.slice F fs.length cf, Value.int .i64 nx] 37)) = wA at *
      refine (HC.out wA).mono ?_
      rintro e w1 ⟨rfl, b1⟩
      have c1 := hbA.trans (b1.mono (by omega))
      have r0 := (b1.cell (p := ⟨w.heap.size, 0, none⟩) (by show w.heap.size < _; omega)).trans q0
      have r1 := (b1.cell (p := ⟨w.heap.size, 1, none⟩) (by show w.heap.size < _; omega)).trans q1
      have r2 := (b1.cell (p := ⟨w.heap.size, 2, none⟩) (by show w.heap.size < _; omega)).trans q2
      have r3 := (b1.cell (p := ⟨w.heap.size, 3, none⟩) (by show w.heap.size < _; omega)).trans q3
      have r4 := (b1.cell (p := ⟨w.heap.size, 4, none⟩) (by show w.heap.size < _; omega)).trans q4
      have hz1 := b1.size
      go_wp2_with fail
      refine (HC2.out w1 (hI.below (c1.mono hB)) (Nat.le_trans hB c1.size)).mono ?_
      rintro e w2 ⟨rfl, b2⟩
      have c2 := c1.trans (b2.mono c1.size)
      have s0 := (b2.cell (p := ⟨w.heap.size, 0, none⟩) (by show w.heap.size < _; omega)).trans r0
      have s1 := (b2.cell (p := ⟨w.heap.size, 1, none⟩) (by show w.heap.size < _; omega)).trans r1
      have s2 := (b2.cell (p := ⟨w.heap.size, 2, none⟩) (by show w.heap.size < _; omega)).trans r2
      have s3 := (b2.cell (p := ⟨w.heap.size, 3, none⟩) (by show w.heap.size < _; omega)).trans r3
      have s4 := (b2.cell (p := ⟨w.heap.size, 4, none⟩) (by show w.heap.size < _; omega)).trans r4
      go_wp2_with fail
      go_ret
      exact ⟨ret_int HQ.out.symm, c2⟩
  · rw [szL_no (by omega)] at hcall
    have HC := Lib.hid hcall
    clear hcall
    have HQ := Lib.hid (show szL left (byBridge who is fs) = -1 from szL_no (by unfold byBridge; omega))
    go_enter Try.func9, Try.ntmps9
    go_wp2_with fail
    generalize (w.alloc (.cells #[Value.string who.1, Value.string who.2, Value.slice I is.length ci, Value.slice F fs.length cf, Value.int .i64 nx] 37)) = wA at *
    refine (HC.out wA).mono ?_
    rintro e w1 ⟨rfl, b1⟩
    have c1 := hbA.trans (b1.mono (by omega))
    have r0 := (b1.cell (p := ⟨w.heap.size, 0, none⟩) (by show w.heap.size < _; omega)).trans q0
    have r1 := (b1.cell (p := ⟨w.heap.size, 1, none⟩) (by show w.heap.size < _; omega)).trans q1
    have r2 := (b1.cell (p := ⟨w.heap.size, 2, none⟩) (by show w.heap.size < _; omega)).trans q2
    have r3 := (b1.cell (p := ⟨w.heap.size, 3, none⟩) (by show w.heap.size < _; omega)).trans q3
    have r4 := (b1.cell (p := ⟨w.heap.size, 4, none⟩) (by show w.heap.size < _; omega)).trans q4
    have hz1 := b1.size
    go_wp2_with fail
    go_ret
    exact ⟨ret_int HQ.out.symm, c1⟩
/-- The cells of an empty one. -/
def zBr : Nat → Value
  | 0 => Value.string { data := #[] }
  | 1 => Value.string { data := #[] }
  | 2 => Value.slice none 0 0
  | 3 => Value.slice none 0 0
  | _ => Value.int .i64 0
/-- A bridge made: its two lists in blocks of their own, one behind the other. -/
def MadeBr (who : ElHandle) (is : List ElItem) (fs : List ElHandle) (nx : Int) (w : World) (e : Ending) (w' : World) : Prop := ∃ (I' : Option Addr) (ci' : Nat) (F' : Option Addr) (cf' m : Nat), e = .returned (.agg #[.string who.1, .string who.2, .slice I' is.length ci', .slice F' fs.length cf', .int .i64 nx]) ∧ OwnE 4 encItem 68 w' w.heap.size I' ci' is ∧ (∀ b, blk I' = some b → b < m) ∧ w.heap.size ≤ m ∧ OwnE 2 encHandle 24 w' m F' cf' fs ∧ Below w.heap.size w w'
set_option maxHeartbeats 1600000 in
theorem toBridge_any (who : ElHandle) (I : Option Addr) (ci : Nat) (is : List ElItem) (F : Option Addr) (cf : Nat) (fs : List ElHandle) (nx : Int) (w : World) (B : Nat) (hI : RdE 4 encItem w B I is) (hF : RdE 2 encHandle w B F fs) (hB : B ≤ w.heap.size) (hl : is.length ≤ 1048576) (hlf : fs.length ≤ 1048576) :
    Calls Try.prog 10 #[.agg #[.string who.1, .string who.2, .slice I is.length ci, .slice F fs.length cf, .int .i64 nx]] w (MadeBr who is fs nx w) := by
  have hbA : Below w.heap.size w (((w.alloc (.cells #[Value.string who.1, Value.string who.2, Value.slice I is.length ci, Value.slice F fs.length cf, Value.int .i64 nx] 37)).alloc (.cells #[.string { data := #[] }, .string { data := #[] }, .slice none 0 0, .slice none 0 0, .int .i64 0] 28)).alloc (.cells #[.string { data := #[] }, .string { data := #[] }, .slice none 0 0, .slice none 0 0, .int .i64 0] 28)) := (((Below.refl _ _).alloc (Nat.le_refl _) _).alloc (by simp) _).alloc (by simp; omega) _
  have hzA : w.heap.size + 2 < (((w.alloc (.cells #[Value.string who.1, Value.string who.2, Value.slice I is.length ci, Value.slice F fs.length cf, Value.int .i64 nx] 37)).alloc (.cells #[.string { data := #[] }, .string { data := #[] }, .slice none 0 0, .slice none 0 0, .int .i64 0] 28)).alloc (.cells #[.string { data := #[] }, .string { data := #[] }, .slice none 0 0, .slice none 0 0, .int .i64 0] 28)).heap.size := by simp
  have oR : Own ((w.alloc (.cells #[Value.string who.1, Value.string who.2, Value.slice I is.length ci, Value.slice F fs.length cf, Value.int .i64 nx] 37)).alloc (.cells #[.string { data := #[] }, .string { data := #[] }, .slice none 0 0, .slice none 0 0, .int .i64 0] 28)) (w.heap.size + 1) 28 5 (some ⟨w.heap.size + 1, 0, none⟩) 1 1 zBr := by
    have := Own.lit (w.alloc (.cells #[Value.string who.1, Value.string who.2, Value.slice I is.length ci, Value.slice F fs.length cf, Value.int .i64 nx] 37)) 28 5 1 #[.string { data := #[] }, .string { data := #[] }, .slice none 0 0, .slice none 0 0, .int .i64 0] zBr (by simp only [maxLen]; omega) rfl
    rw [show ((w.alloc (.cells #[Value.string who.1, Value.string who.2, Value.slice I is.length ci, Value.slice F fs.length cf, Value.int .i64 nx] 37))).heap.size = w.heap.size + 1 by simp] at this
    exact this
  have oR := Own.below oR ((Below.refl _ _).alloc (Nat.le_refl _) (.cells #[.string { data := #[] }, .string { data := #[] }, .slice none 0 0, .slice none 0 0, .int .i64 0] 28))
  go_enter Try.func10, Try.ntmps10
  go_wp2_with fail
  refine (toHandle_any who.1 who.2 _).mono ?_
  rintro e w1 ⟨rfl, b1⟩
  obtain ⟨hc1, hf1⟩ := bcell b1
  have hz1 : w.heap.size + 2 < w1.heap.size := by have := b1.size; omega
  have y1a : w.heap.size < w1.heap.size := by omega
  have y1b : w.heap.size + 1 < w1.heap.size := by omega
  have y1c : w.heap.size + 1 + 1 < w1.heap.size := by omega
  have k1 := hbA.trans (b1.mono (by omega))
  have oR1 := Own.below oR b1
  clear b1 hzA hbA oR
  go_wp2_with fail
  refine (toItemS_any I ci B is _ (hI.below (Below.mono (B := w.heap.size) (by repeat (first | assumption | exact Below.refl _ _ | refine Below.setCell ?_ (by first | omega | (simp; done) | (simp; omega)) _)) hB)) (Nat.le_trans hB (Below.size (B := w.heap.size) (by repeat (first | assumption | exact Below.refl _ _ | refine Below.setCell ?_ (by first | omega | (simp; done) | (simp; omega)) _)))) hl).mono ?_
  rintro e w2 ⟨I', rfl, o2, b2⟩
  obtain ⟨hc2, hf2⟩ := bcell b2
  have k2 : Below w.heap.size w w2 := Below.trans (B := w.heap.size) (by repeat (first | assumption | exact Below.refl _ _ | refine Below.setCell ?_ (by first | omega | (simp; done) | (simp; omega)) _)) (b2.mono (by have := k1.size; simp; omega))
  have hz2 : w1.heap.size ≤ w2.heap.size := by have := b2.size; simpa using this
  have y2a : w.heap.size < w2.heap.size := by omega
  have y2b : w.heap.size + 1 < w2.heap.size := by omega
  have y2c : w.heap.size + 1 + 1 < w2.heap.size := by omega
  have o2' := Own.more (base' := w1.heap.size) o2 (by simp)
  have oR2 : Own w2 (w.heap.size + 1) 28 5 (some ⟨w.heap.size + 1, 0, none⟩) 1 1 zBr := Own.below (Own.kept (Own.kept oR1 (set_grown _ (w.heap.size + 1 + 1) 0 _) (.inr (by simp [blk]))) (set_grown _ (w.heap.size + 1 + 1) 1 _) (.inr (by simp [blk]))) b2
  have lo2 : Hid (∀ b, blk I' = some b → w1.heap.size ≤ b ∧ b < w2.heap.size) := Lib.hid (fun b hb => Own.lt o2' hb)
  clear b2 o2
  go_wp2_with fail
  refine (toHandleS_any F cf B fs _ (hF.below (Below.mono (B := w.heap.size) (by repeat (first | assumption | exact Below.refl _ _ | refine Below.setCell ?_ (by first | omega | (simp; done) | (simp; omega)) _)) hB)) (Nat.le_trans hB (Below.size (B := w.heap.size) (by repeat (first | assumption | exact Below.refl _ _ | refine Below.setCell ?_ (by first | omega | (simp; done) | (simp; omega)) _)))) hlf).mono ?_
  rintro e w3 ⟨F', rfl, o3, b3⟩
  obtain ⟨hc3, hf3⟩ := bcell b3
  have k3 : Below w.heap.size w w3 := Below.trans (B := w.heap.size) (by repeat (first | assumption | exact Below.refl _ _ | refine Below.setCell ?_ (by first | omega | (simp; done) | (simp; omega)) _)) (b3.mono (by have := k2.size; simp; omega))
  have hz3 : w2.heap.size ≤ w3.heap.size := by have := b3.size; simpa using this
  have y3a : w.heap.size < w3.heap.size := by omega
  have y3b : w.heap.size + 1 < w3.heap.size := by omega
  have y3c : w.heap.size + 1 + 1 < w3.heap.size := by omega
  have o2b := Own.below (own_set o2' _ _ _ (by omega)) b3
  have oR3 := Own.below (Own.kept oR2 (set_grown _ (w.heap.size + 1 + 1) 2 _) (.inr (by simp [blk]))) b3
  have o3' := Own.more (base' := w2.heap.size) o3 (by simp)
  have lo3 : Hid (∀ b, blk F' = some b → w2.heap.size ≤ b ∧ b < w3.heap.size) := Lib.hid (fun b hb => Own.lt o3' hb)
  clear b3 o3 o2'
  go_wp2_with fail
  have r0 := oR3.cell rfl (j := 0) (by omega)
  have rf0 := oR3.frozen rfl 0
  have r1 := oR3.cell rfl (j := 1) (by omega)
  have rf1 := oR3.frozen rfl 1
  have r2 := oR3.cell rfl (j := 2) (by omega)
  have rf2 := oR3.frozen rfl 2
  have r3 := oR3.cell rfl (j := 3) (by omega)
  have rf3 := oR3.frozen rfl 3
  have r4 := oR3.cell rfl (j := 4) (by omega)
  have rf4 := oR3.frozen rfl 4
  simp only [zBr] at r0 r1 r2 r3 r4
  have F1 := (own_set (own_set (own_set (own_set (own_set (own_set (own_set o2b (w.heap.size + 1 + 1) 3 (Value.slice F' fs.length fs.length) (by omega)) (w.heap.size + 1 + 1) 4 (Value.int .i64 nx) (by omega)) (w.heap.size + 1) 0 (Value.string who.1) (by omega)) (w.heap.size + 1) 1 (Value.string who.2) (by omega)) (w.heap.size + 1) 2 (Value.slice I' is.length is.length) (by omega)) (w.heap.size + 1) 3 (Value.slice F' fs.length fs.length) (by omega)) (w.heap.size + 1) 4 (Value.int .i64 nx) (by omega))
  have F2 := (own_set (own_set (own_set (own_set (own_set (own_set (own_set o3' (w.heap.size + 1 + 1) 3 (Value.slice F' fs.length fs.length) (by omega)) (w.heap.size + 1 + 1) 4 (Value.int .i64 nx) (by omega)) (w.heap.size + 1) 0 (Value.string who.1) (by omega)) (w.heap.size + 1) 1 (Value.string who.2) (by omega)) (w.heap.size + 1) 2 (Value.slice I' is.length is.length) (by omega)) (w.heap.size + 1) 3 (Value.slice F' fs.length fs.length) (by omega)) (w.heap.size + 1) 4 (Value.int .i64 nx) (by omega))
  have K3 := (((((((k3.setCell (p := ⟨w.heap.size + 1 + 1, 3, none⟩) (by show w.heap.size ≤ w.heap.size + 1 + 1; omega) (Value.slice F' fs.length fs.length)).setCell (p := ⟨w.heap.size + 1 + 1, 4, none⟩) (by show w.heap.size ≤ w.heap.size + 1 + 1; omega) (Value.int .i64 nx)).setCell (p := ⟨w.heap.size + 1, 0, none⟩) (by show w.heap.size ≤ w.heap.size + 1; omega) (Value.string who.1)).setCell (p := ⟨w.heap.size + 1, 1, none⟩) (by show w.heap.size ≤ w.heap.size + 1; omega) (Value.string who.2)).setCell (p := ⟨w.heap.size + 1, 2, none⟩) (by show w.heap.size ≤ w.heap.size + 1; omega) (Value.slice I' is.length is.length)).setCell (p := ⟨w.heap.size + 1, 3, none⟩) (by show w.heap.size ≤ w.heap.size + 1; omega) (Value.slice F' fs.length fs.length)).setCell (p := ⟨w.heap.size + 1, 4, none⟩) (by show w.heap.size ≤ w.heap.size + 1; omega) (Value.int .i64 nx))
  clear hc1 hc2 hf1 hf2 oR1 oR2
  exact bodyPost_ret (v := .agg #[.string who.1, .string who.2, .slice I' is.length is.length, .slice F' fs.length fs.length, .int .i64 nx]) (by simp [results, Try.results10, go_sem, r0, r1, r2, r3, r4, rf0, rf1, rf2, rf3, rf4]) rfl ⟨I', is.length, F', fs.length, w2.heap.size, rfl, Own.more F1 (by omega), fun b hb => (lo2.out b hb).2, by omega, F2, K3⟩
/-- Are two bridges the same? -/
def sameBr (who : ElHandle) (is : List ElItem) (fs : List ElHandle) (nx : Int) (who2 : ElHandle) (is2 : List ElItem) (fs2 : List ElHandle) (nx2 : Int) : Bool := eqEl who who2 && (sameB is is2 && (sameB fs fs2 && decide (nx = nx2)))
theorem sameBr_self (who : ElHandle) (is : List ElItem) (fs : List ElHandle) (nx : Int) : sameBr who is fs nx who is fs nx = true := by unfold sameBr; rw [eqEl_true rfl, sameB_self, sameB_self]; simp
set_option maxHeartbeats 1600000 in
theorem eqBridge_self (who : ElHandle) (I : Option Addr) (ci : Nat) (is : List ElItem) (F : Option Addr) (cf : Nat) (fs : List ElHandle) (nx : Int) (I2 F2 : Option Addr) (ci2 cf2 : Nat) (w : World) (B : Nat) (hI : RdE 4 encItem w B I is) (hF : RdE 2 encHandle w B F fs) (hB : B ≤ w.heap.size) (hI2 : RdE 4 encItem w B I2 is) (hF2 : RdE 2 encHandle w B F2 fs) (hl : is.length ≤ 140737488351232) (hlf : fs.length ≤ 140737488351232) :
    Calls Try.prog 11 #[.agg #[.string who.1, .string who.2, .slice I is.length ci, .slice F fs.length cf, .int .i64 nx], .agg #[.string who.1, .string who.2, .slice I2 is.length ci2, .slice F2 fs.length cf2, .int .i64 nx]] w fun e w' => e = .returned (.bool true) ∧ Below w.heap.size w w' := by
  have hbA : Below w.heap.size w ((w.alloc (.cells #[Value.string who.1, Value.string who.2, Value.slice I is.length ci, Value.slice F fs.length cf, Value.int .i64 nx] 28)).alloc (.cells #[Value.string who.1, Value.string who.2, Value.slice I2 is.length ci2, Value.slice F2 fs.length cf2, Value.int .i64 nx] 28)) := ((Below.refl _ _).alloc (Nat.le_refl _) _).alloc (by simp) _
  have hzA : w.heap.size + 1 < ((w.alloc (.cells #[Value.string who.1, Value.string who.2, Value.slice I is.length ci, Value.slice F fs.length cf, Value.int .i64 nx] 28)).alloc (.cells #[Value.string who.1, Value.string who.2, Value.slice I2 is.length ci2, Value.slice F2 fs.length cf2, Value.int .i64 nx] 28)).heap.size := by simp
  have e1 := eqEl_true (α := ElHandle) (x := who) rfl
  have e2 := sameB_self is
  have e3 := sameB_self fs
  have q0 : ((w.alloc (.cells #[Value.string who.1, Value.string who.2, Value.slice I is.length ci, Value.slice F fs.length cf, Value.int .i64 nx] 28)).alloc (.cells #[Value.string who.1, Value.string who.2, Value.slice I2 is.length ci2, Value.slice F2 fs.length cf2, Value.int .i64 nx] 28)).cell? ⟨w.heap.size, 0, none⟩ = some (Value.string who.1) := by rw [((Below.refl (w.heap.size + 1) (w.alloc (.cells #[Value.string who.1, Value.string who.2, Value.slice I is.length ci, Value.slice F fs.length cf, Value.int .i64 nx] 28))).alloc (by simp) _).cell (by show w.heap.size < w.heap.size + 1; omega), World.cell?_alloc_at _ _ _ _ rfl]; rfl
  have q1 : ((w.alloc (.cells #[Value.string who.1, Value.string who.2, Value.slice I is.length ci, Value.slice F fs.length cf, Value.int .i64 nx] 28)).alloc (.cells #[Value.string who.1, Value.string who.2, Value.slice I2 is.length ci2, Value.slice F2 fs.length cf2, Value.int .i64 nx] 28)).cell? ⟨w.heap.size, 1, none⟩ = some (Value.string who.2) := by rw [((Below.refl (w.heap.size + 1) (w.alloc (.cells #[Value.string who.1, Value.string who.2, Value.slice I is.length ci, Value.slice F fs.length cf, Value.int .i64 nx] 28))).alloc (by simp) _).cell (by show w.heap.size < w.heap.size + 1; omega), World.cell?_alloc_at _ _ _ _ rfl]; rfl
  have q2 : ((w.alloc (.cells #[Value.string who.1, Value.string who.2, Value.slice I is.length ci, Value.slice F fs.length cf, Value.int .i64 nx] 28)).alloc (.cells #[Value.string who.1, Value.string who.2, Value.slice I2 is.length ci2, Value.slice F2 fs.length cf2, Value.int .i64 nx] 28)).cell? ⟨w.heap.size, 2, none⟩ = some (Value.slice I is.length ci) := by rw [((Below.refl (w.heap.size + 1) (w.alloc (.cells #[Value.string who.1, Value.string who.2, Value.slice I is.length ci, Value.slice F fs.length cf, Value.int .i64 nx] 28))).alloc (by simp) _).cell (by show w.heap.size < w.heap.size + 1; omega), World.cell?_alloc_at _ _ _ _ rfl]; rfl
  have q3 : ((w.alloc (.cells #[Value.string who.1, Value.string who.2, Value.slice I is.length ci, Value.slice F fs.length cf, Value.int .i64 nx] 28)).alloc (.cells #[Value.string who.1, Value.string who.2, Value.slice I2 is.length ci2, Value.slice F2 fs.length cf2, Value.int .i64 nx] 28)).cell? ⟨w.heap.size, 3, none⟩ = some (Value.slice F fs.length cf) := by rw [((Below.refl (w.heap.size + 1) (w.alloc (.cells #[Value.string who.1, Value.string who.2, Value.slice I is.length ci, Value.slice F fs.length cf, Value.int .i64 nx] 28))).alloc (by simp) _).cell (by show w.heap.size < w.heap.size + 1; omega), World.cell?_alloc_at _ _ _ _ rfl]; rfl
  have q4 : ((w.alloc (.cells #[Value.string who.1, Value.string who.2, Value.slice I is.length ci, Value.slice F fs.length cf, Value.int .i64 nx] 28)).alloc (.cells #[Value.string who.1, Value.string who.2, Value.slice I2 is.length ci2, Value.slice F2 fs.length cf2, Value.int .i64 nx] 28)).cell? ⟨w.heap.size, 4, none⟩ = some (Value.int .i64 nx) := by rw [((Below.refl (w.heap.size + 1) (w.alloc (.cells #[Value.string who.1, Value.string who.2, Value.slice I is.length ci, Value.slice F fs.length cf, Value.int .i64 nx] 28))).alloc (by simp) _).cell (by show w.heap.size < w.heap.size + 1; omega), World.cell?_alloc_at _ _ _ _ rfl]; rfl
  have p0 : ((w.alloc (.cells #[Value.string who.1, Value.string who.2, Value.slice I is.length ci, Value.slice F fs.length cf, Value.int .i64 nx] 28)).alloc (.cells #[Value.string who.1, Value.string who.2, Value.slice I2 is.length ci2, Value.slice F2 fs.length cf2, Value.int .i64 nx] 28)).cell? ⟨w.heap.size + 1, 0, none⟩ = some (Value.string who.1) := by rw [World.cell?_alloc_at _ _ _ _ (by simp)]; rfl
  have p1 : ((w.alloc (.cells #[Value.string who.1, Value.string who.2, Value.slice I is.length ci, Value.slice F fs.length cf, Value.int .i64 nx] 28)).alloc (.cells #[Value.string who.1, Value.string who.2, Value.slice I2 is.length ci2, Value.slice F2 fs.length cf2, Value.int .i64 nx] 28)).cell? ⟨w.heap.size + 1, 1, none⟩ = some (Value.string who.2) := by rw [World.cell?_alloc_at _ _ _ _ (by simp)]; rfl
  have p2 : ((w.alloc (.cells #[Value.string who.1, Value.string who.2, Value.slice I is.length ci, Value.slice F fs.length cf, Value.int .i64 nx] 28)).alloc (.cells #[Value.string who.1, Value.string who.2, Value.slice I2 is.length ci2, Value.slice F2 fs.length cf2, Value.int .i64 nx] 28)).cell? ⟨w.heap.size + 1, 2, none⟩ = some (Value.slice I2 is.length ci2) := by rw [World.cell?_alloc_at _ _ _ _ (by simp)]; rfl
  have p3 : ((w.alloc (.cells #[Value.string who.1, Value.string who.2, Value.slice I is.length ci, Value.slice F fs.length cf, Value.int .i64 nx] 28)).alloc (.cells #[Value.string who.1, Value.string who.2, Value.slice I2 is.length ci2, Value.slice F2 fs.length cf2, Value.int .i64 nx] 28)).cell? ⟨w.heap.size + 1, 3, none⟩ = some (Value.slice F2 fs.length cf2) := by rw [World.cell?_alloc_at _ _ _ _ (by simp)]; rfl
  have p4 : ((w.alloc (.cells #[Value.string who.1, Value.string who.2, Value.slice I is.length ci, Value.slice F fs.length cf, Value.int .i64 nx] 28)).alloc (.cells #[Value.string who.1, Value.string who.2, Value.slice I2 is.length ci2, Value.slice F2 fs.length cf2, Value.int .i64 nx] 28)).cell? ⟨w.heap.size + 1, 4, none⟩ = some (Value.int .i64 nx) := by rw [World.cell?_alloc_at _ _ _ _ (by simp)]; rfl
  go_enter Try.func11, Try.ntmps11
  go_wp2_with fail
  generalize ((w.alloc (.cells #[Value.string who.1, Value.string who.2, Value.slice I is.length ci, Value.slice F fs.length cf, Value.int .i64 nx] 28)).alloc (.cells #[Value.string who.1, Value.string who.2, Value.slice I2 is.length ci2, Value.slice F2 fs.length cf2, Value.int .i64 nx] 28)) = wA at *
  refine (eqHandle_any who.1 who.2 who.1 who.2 wA).mono ?_
  rintro e w1 ⟨rfl, b1⟩
  rw [show eqEl (α := ElHandle) (who.1, who.2) (who.1, who.2) = true from e1]
  have k1 := hbA.trans (b1.mono hbA.size)
  have z1 : w.heap.size + 1 < w1.heap.size := by have := b1.size; omega
  have q2' := (b1.cell (p := ⟨w.heap.size, 2, none⟩) (by show w.heap.size < _; omega)).trans q2
  have q3' := (b1.cell (p := ⟨w.heap.size, 3, none⟩) (by show w.heap.size < _; omega)).trans q3
  have q4' := (b1.cell (p := ⟨w.heap.size, 4, none⟩) (by show w.heap.size < _; omega)).trans q4
  have p2' := (b1.cell (p := ⟨w.heap.size + 1, 2, none⟩) (by show w.heap.size + 1 < _; omega)).trans p2
  have p3' := (b1.cell (p := ⟨w.heap.size + 1, 3, none⟩) (by show w.heap.size + 1 < _; omega)).trans p3
  have p4' := (b1.cell (p := ⟨w.heap.size + 1, 4, none⟩) (by show w.heap.size + 1 < _; omega)).trans p4
  go_wp2_with fail
  refine (eqItemS_any I I2 ci ci2 B is is w1 (hI.below (k1.mono hB)) (hI2.below (k1.mono hB)) (Nat.le_trans hB k1.size) hl hl).mono ?_
  rintro e w2 ⟨rfl, b2⟩
  rw [e2]
  have k2 := k1.trans (b2.mono k1.size)
  have z2 : w.heap.size + 1 < w2.heap.size := by have := b2.size; omega
  have q2'' := (b2.cell (p := ⟨w.heap.size, 2, none⟩) (by show w.heap.size < _; omega)).trans q2'
  have q3'' := (b2.cell (p := ⟨w.heap.size, 3, none⟩) (by show w.heap.size < _; omega)).trans q3'
  have q4'' := (b2.cell (p := ⟨w.heap.size, 4, none⟩) (by show w.heap.size < _; omega)).trans q4'
  have p2'' := (b2.cell (p := ⟨w.heap.size + 1, 2, none⟩) (by show w.heap.size + 1 < _; omega)).trans p2'
  have p3'' := (b2.cell (p := ⟨w.heap.size + 1, 3, none⟩) (by show w.heap.size + 1 < _; omega)).trans p3'
  have p4'' := (b2.cell (p := ⟨w.heap.size + 1, 4, none⟩) (by show w.heap.size + 1 < _; omega)).trans p4'
  go_wp2_with fail
  refine (eqHandleS_any F F2 cf cf2 B fs fs w2 (hF.below (k2.mono hB)) (hF2.below (k2.mono hB)) (Nat.le_trans hB k2.size) hlf hlf).mono ?_
  rintro e w3 ⟨rfl, b3⟩
  rw [e3]
  have k3 := k2.trans (b3.mono k2.size)
  have q2''' := (b3.cell (p := ⟨w.heap.size, 2, none⟩) (by show w.heap.size < _; omega)).trans q2''
  have q3''' := (b3.cell (p := ⟨w.heap.size, 3, none⟩) (by show w.heap.size < _; omega)).trans q3''
  have q4''' := (b3.cell (p := ⟨w.heap.size, 4, none⟩) (by show w.heap.size < _; omega)).trans q4''
  have p2''' := (b3.cell (p := ⟨w.heap.size + 1, 2, none⟩) (by show w.heap.size + 1 < _; omega)).trans p2''
  have p3''' := (b3.cell (p := ⟨w.heap.size + 1, 3, none⟩) (by show w.heap.size + 1 < _; omega)).trans p3''
  have p4''' := (b3.cell (p := ⟨w.heap.size + 1, 4, none⟩) (by show w.heap.size + 1 < _; omega)).trans p4''
  have en : (nx != nx) = false := by simp
  go_wp2_with fail
  go_ret
  exact ⟨rfl, k3⟩
end Go.Proofs.Ytfnmlffpnmmcdaa
