/- The statement: for every input the law returns true, and each argument reads as before; the tables that the code names are as the program lays them. -/
import Derived.Test.YtfnmlffpnmmcdaaGreatDoorMc3
import Derived.Test.YtfnmlffpnmmcdaaGreatDoorMc4
import Derived.Test.YtfnmlffpnmmcdaaGreatDoorMc6
import Derived.Test.YtfnmlffpnmmcdaaGreatDoorMc11
import Derived.Test.YtfnmlffpnmmcdaaGreatDoorMc10
import Derived.Test.YtfnmlffpnmmcdaaGreatDoorCards
import Derived.Test.YtfnmlffpnmmcdaaGreatDoorTie
import Derived.SevenTiedAt
import Derived.OpenVars
import Derived.OpenShut
namespace Go.Proofs.YtfnmlffpnmmcdaaGreatDoor
set_option maxRecDepth 100000
open Go.RowKit
theorem set_grown (w : World) (b o : Nat) (u : Value) : w.grownBy (w.setCell ⟨b, o, none⟩ u) (some b) :=
 ⟨rfl, rfl, rfl, by simp, fun i _ hne => Below.heap_setCell w ⟨b, o, none⟩ u i (fun e => hne (by rw [e]))⟩
theorem own_set {w : World} {base e sz n cap : Nat} {A : Option Addr} {f : Nat → Value} (h : Own w base e sz A n cap f) (b o : Nat) (u : Value) (hb : b < base) : Own (w.setCell ⟨b, o, none⟩ u) base e sz A n cap f :=
 Own.kept h (set_grown w b o u) (by
  cases hA : blk A with
  | none => exact .inl rfl
  | some c => exact .inr (fun e => by injection e with e; have := (Own.lt h hA).1; omega))
theorem bcell {W w1 : World} (hb : Below W.heap.size W w1) : (∀ b o, b < W.heap.size → w1.cell? ⟨b, o, none⟩ = W.cell? ⟨b, o, none⟩) ∧ (∀ b o, b < W.heap.size → w1.frozen? ⟨b, o, none⟩ = W.frozen? ⟨b, o, none⟩) :=
 ⟨fun b o h => hb.cell (p := ⟨b, o, none⟩) h, fun b o h => hb.frozen (p := ⟨b, o, none⟩) h⟩
def byBridge (who : ElHandle) (is : List ElItem) (fs : List ElHandle) : Nat := byHandle who + totItem is + totHandle fs
set_option maxHeartbeats 800000 in
theorem szBridge_any (who : ElHandle) (I : Option Addr) (ci : Nat) (is : List ElItem) (F : Option Addr) (cf : Nat) (fs : List ElHandle) (nx : Int) (left : Int) (w : World) (B : Nat) (hI : RdE 4 encItem w B I is) (hF : RdE 2 encHandle w B F fs) (hB : B ≤ w.heap.size) (hl : is.length ≤ 9223372036854775807) (hlf : fs.length ≤ 9223372036854775807) (hiz : ∀ k, k < is.length → (gt is k).1.size ≤ maxLen ∧ (gt is k).2.1.size ≤ maxLen ∧ (gt is k).2.2.1.size ≤ maxLen) (hfz : ∀ k, k < fs.length → (gt fs k).1.size ≤ maxLen ∧ (gt fs k).2.size ≤ maxLen) (hw0 : who.1.size ≤ maxLen) (hw1 : who.2.size ≤ maxLen) (h0 : 0 ≤ left) (h1 : left ≤ 1048576) :
    Calls Tryz.prog 7 #[.agg #[.string who.1, .string who.2, .slice I is.length ci, .slice F fs.length cf, .int .i64 nx], .int .i64 left] w fun e w' => e = .returned (.int .i64 (szL left (byBridge who is fs))) ∧ Below w.heap.size w w' := by
 have HIZ := Lib.hid hiz
 have HFZ := Lib.hid hfz
 clear hiz hfz
 have hbA : Below w.heap.size w (w.alloc (.cells #[Value.string who.1, Value.string who.2, Value.slice I is.length ci, Value.slice F fs.length cf, Value.int .i64 nx] 27)) := (Below.refl _ _).alloc (Nat.le_refl _) _
 have hzA : w.heap.size < (w.alloc (.cells #[Value.string who.1, Value.string who.2, Value.slice I is.length ci, Value.slice F fs.length cf, Value.int .i64 nx] 27)).heap.size := by simp
 have q0 : (w.alloc (.cells #[Value.string who.1, Value.string who.2, Value.slice I is.length ci, Value.slice F fs.length cf, Value.int .i64 nx] 27)).cell? ⟨w.heap.size, 0, none⟩ = some (Value.string who.1) := by rw [World.cell?_alloc_at _ _ _ _ rfl]; rfl
 have q1 : (w.alloc (.cells #[Value.string who.1, Value.string who.2, Value.slice I is.length ci, Value.slice F fs.length cf, Value.int .i64 nx] 27)).cell? ⟨w.heap.size, 1, none⟩ = some (Value.string who.2) := by rw [World.cell?_alloc_at _ _ _ _ rfl]; rfl
 have q2 : (w.alloc (.cells #[Value.string who.1, Value.string who.2, Value.slice I is.length ci, Value.slice F fs.length cf, Value.int .i64 nx] 27)).cell? ⟨w.heap.size, 2, none⟩ = some (Value.slice I is.length ci) := by rw [World.cell?_alloc_at _ _ _ _ rfl]; rfl
 have q3 : (w.alloc (.cells #[Value.string who.1, Value.string who.2, Value.slice I is.length ci, Value.slice F fs.length cf, Value.int .i64 nx] 27)).cell? ⟨w.heap.size, 3, none⟩ = some (Value.slice F fs.length cf) := by rw [World.cell?_alloc_at _ _ _ _ rfl]; rfl
 have q4 : (w.alloc (.cells #[Value.string who.1, Value.string who.2, Value.slice I is.length ci, Value.slice F fs.length cf, Value.int .i64 nx] 27)).cell? ⟨w.heap.size, 4, none⟩ = some (Value.int .i64 nx) := by rw [World.cell?_alloc_at _ _ _ _ rfl]; rfl
 have hcall := fun W => szHandle_any who.1 who.2 left W h0 h1 hw0 hw1
 rw [show who.1.size + who.2.size = byHandle who from rfl] at hcall
 by_cases z0 : (byHandle who : Int) ≤ left
 ·rw [szL_yes z0] at hcall
  have HC := Lib.hid hcall
  clear hcall
  have hcall := fun W h hB => szItemS_any I ci B is (left - (byHandle who : Int)) W h hB hl HIZ.out (by omega) (by omega)
  by_cases z1 : (totItem is : Int) ≤ left - (byHandle who : Int)
  ·rw [szL_yes z1] at hcall
   have HC2 := Lib.hid hcall
   clear hcall
   have hcall := fun W h hB => szHandleS_any F cf B fs (left - (byHandle who : Int) - (totItem is : Int)) W h hB hlf HFZ.out (by omega) (by omega)
   by_cases z2 : (totHandle fs : Int) ≤ left - (byHandle who : Int) - (totItem is : Int)
   ·rw [szL_yes z2] at hcall
    have HC3 := Lib.hid hcall
    clear hcall
    have HQ := Lib.hid (show szL left (byBridge who is fs) = left - (byHandle who : Int) - (totItem is : Int) - (totHandle fs : Int) by rw [szL_yes (by unfold byBridge; omega)]; unfold byBridge; omega)
    go_enter Tryz.func7, Tryz.ntmps7
    go_wp2_with fail
    generalize (w.alloc (.cells #[Value.string who.1, Value.string who.2, Value.slice I is.length ci, Value.slice F fs.length cf, Value.int .i64 nx] 27)) = wA at *
    refine (HC.out wA).mono ?_
    rintro e w1 ⟨rfl, b1⟩
    have c1 := hbA.trans (b1.mono (by omega))
    have r0 := (b1.cell (p := ⟨w.heap.size, 0, none⟩) (by show w.heap.size < _; omega)).trans q0
    have r1 := (b1.cell (p := ⟨w.heap.size, 1, none⟩) (by show w.heap.size < _; omega)).trans q1
    have r2 := (b1.cell (p := ⟨w.heap.size, 2, none⟩) (by show w.heap.size < _; omega)).trans q2
    have r3 := (b1.cell (p := ⟨w.heap.size, 3, none⟩) (by show w.heap.size < _; omega)).trans q3
    have r4 := (b1.cell (p := ⟨w.heap.size, 4, none⟩) (by show w.heap.size < _; omega)).trans q4
    have hz1 := b1.size
    go_wp2_with fail
    refine (HC2.out w1 (hI.below (c1.mono hB)) (Nat.le_trans hB c1.size)).mono ?_
    rintro e w2 ⟨rfl, b2⟩
    have c2 := c1.trans (b2.mono c1.size)
    have s0 := (b2.cell (p := ⟨w.heap.size, 0, none⟩) (by show w.heap.size < _; omega)).trans r0
    have s1 := (b2.cell (p := ⟨w.heap.size, 1, none⟩) (by show w.heap.size < _; omega)).trans r1
    have s2 := (b2.cell (p := ⟨w.heap.size, 2, none⟩) (by show w.heap.size < _; omega)).trans r2
    have s3 := (b2.cell (p := ⟨w.heap.size, 3, none⟩) (by show w.heap.size < _; omega)).trans r3
    have s4 := (b2.cell (p := ⟨w.heap.size, 4, none⟩) (by show w.heap.size < _; omega)).trans r4
    go_wp2_with fail
    refine (HC3.out w2 (hF.below (c2.mono hB)) (Nat.le_trans hB c2.size)).mono ?_
    rintro e w3 ⟨rfl, b3⟩
    go_wp2_with fail
    go_ret
    exact ⟨ret_int HQ.out.symm, c2.trans (b3.mono c2.size)⟩
   ·rw [szL_no (by omega)] at hcall
    have HC3 := Lib.hid hcall
    clear hcall
    have HQ := Lib.hid (show szL left (byBridge who is fs) = -1 from szL_no (by unfold byBridge; omega))
    go_enter Tryz.func7, Tryz.ntmps7
    go_wp2_with fail
    generalize (w.alloc (.cells #[Value.string who.1, Value.string who.2, Value.slice I is.length ci, Value.slice F fs.length cf, Value.int .i64 nx] 27)) = wA at *
    refine (HC.out wA).mono ?_
    rintro e w1 ⟨rfl, b1⟩
    have c1 := hbA.trans (b1.mono (by omega))
    have r0 := (b1.cell (p := ⟨w.heap.size, 0, none⟩) (by show w.heap.size < _; omega)).trans q0
    have r1 := (b1.cell (p := ⟨w.heap.size, 1, none⟩) (by show w.heap.size < _; omega)).trans q1
    have r2 := (b1.cell (p := ⟨w.heap.size, 2, none⟩) (by show w.heap.size < _; omega)).trans q2
    have r3 := (b1.cell (p := ⟨w.heap.size, 3, none⟩) (by show w.heap.size < _; omega)).trans q3
    have r4 := (b1.cell (p := ⟨w.heap.size, 4, none⟩) (by show w.heap.size < _; omega)).trans q4
    have hz1 := b1.size
    go_wp2_with fail
    refine (HC2.out w1 (hI.below (c1.mono hB)) (Nat.le_trans hB c1.size)).mono ?_
    rintro e w2 ⟨rfl, b2⟩
    have c2 := c1.trans (b2.mono c1.size)
    have s0 := (b2.cell (p := ⟨w.heap.size, 0, none⟩) (by show w.heap.size < _; omega)).trans r0
    have s1 := (b2.cell (p := ⟨w.heap.size, 1, none⟩) (by show w.heap.size < _; omega)).trans r1
    have s2 := (b2.cell (p := ⟨w.heap.size, 2, none⟩) (by show w.heap.size < _; omega)).trans r2
    have s3 := (b2.cell (p := ⟨w.heap.size, 3, none⟩) (by show w.heap.size < _; omega)).trans r3
    have s4 := (b2.cell (p := ⟨w.heap.size, 4, none⟩) (by show w.heap.size < _; omega)).trans r4
    go_wp2_with fail
    refine (HC3.out w2 (hF.below (c2.mono hB)) (Nat.le_trans hB c2.size)).mono ?_
    rintro e w3 ⟨rfl, b3⟩
    go_wp2_with fail
    go_ret
    exact ⟨ret_int HQ.out.symm, c2.trans (b3.mono c2.size)⟩
  ·rw [szL_no (by omega)] at hcall
   have HC2 := Lib.hid hcall
   clear hcall
   have HQ := Lib.hid (show szL left (byBridge who is fs) = -1 from szL_no (by unfold byBridge; omega))
   go_enter Tryz.func7, Tryz.ntmps7
   go_wp2_with fail
   generalize (w.alloc (.cells #[Value.string who.1, Value.string who.2, Value.slice I is.length ci, Value.slice F fs.length cf, Value.int .i64 nx] 27)) = wA at *
   refine (HC.out wA).mono ?_
   rintro e w1 ⟨rfl, b1⟩
   have c1 := hbA.trans (b1.mono (by omega))
   have r0 := (b1.cell (p := ⟨w.heap.size, 0, none⟩) (by show w.heap.size < _; omega)).trans q0
   have r1 := (b1.cell (p := ⟨w.heap.size, 1, none⟩) (by show w.heap.size < _; omega)).trans q1
   have r2 := (b1.cell (p := ⟨w.heap.size, 2, none⟩) (by show w.heap.size < _; omega)).trans q2
   have r3 := (b1.cell (p := ⟨w.heap.size, 3, none⟩) (by show w.heap.size < _; omega)).trans q3
   have r4 := (b1.cell (p := ⟨w.heap.size, 4, none⟩) (by show w.heap.size < _; omega)).trans q4
   have hz1 := b1.size
   go_wp2_with fail
   refine (HC2.out w1 (hI.below (c1.mono hB)) (Nat.le_trans hB c1.size)).mono ?_
   rintro e w2 ⟨rfl, b2⟩
   have c2 := c1.trans (b2.mono c1.size)
   have s0 := (b2.cell (p := ⟨w.heap.size, 0, none⟩) (by show w.heap.size < _; omega)).trans r0
   have s1 := (b2.cell (p := ⟨w.heap.size, 1, none⟩) (by show w.heap.size < _; omega)).trans r1
   have s2 := (b2.cell (p := ⟨w.heap.size, 2, none⟩) (by show w.heap.size < _; omega)).trans r2
   have s3 := (b2.cell (p := ⟨w.heap.size, 3, none⟩) (by show w.heap.size < _; omega)).trans r3
   have s4 := (b2.cell (p := ⟨w.heap.size, 4, none⟩) (by show w.heap.size < _; omega)).trans r4
   go_wp2_with fail
   go_ret
   exact ⟨ret_int HQ.out.symm, c2⟩
 ·rw [szL_no (by omega)] at hcall
  have HC := Lib.hid hcall
  clear hcall
  have HQ := Lib.hid (show szL left (byBridge who is fs) = -1 from szL_no (by unfold byBridge; omega))
  go_enter Tryz.func7, Tryz.ntmps7
  go_wp2_with fail
  generalize (w.alloc (.cells #[Value.string who.1, Value.string who.2, Value.slice I is.length ci, Value.slice F fs.length cf, Value.int .i64 nx] 27)) = wA at *
  refine (HC.out wA).mono ?_
  rintro e w1 ⟨rfl, b1⟩
  have c1 := hbA.trans (b1.mono (by omega))
  have r0 := (b1.cell (p := ⟨w.heap.size, 0, none⟩) (by show w.heap.size < _; omega)).trans q0
  have r1 := (b1.cell (p := ⟨w.heap.size, 1, none⟩) (by show w.heap.size < _; omega)).trans q1
  have r2 := (b1.cell (p := ⟨w.heap.size, 2, none⟩) (by show w.heap.size < _; omega)).trans q2
  have r3 := (b1.cell (p := ⟨w.heap.size, 3, none⟩) (by show w.heap.size < _; omega)).trans q3
  have r4 := (b1.cell (p := ⟨w.heap.size, 4, none⟩) (by show w.heap.size < _; omega)).trans q4
  have hz1 := b1.size
  go_wp2_with fail
  go_ret
  exact ⟨ret_int HQ.out.symm, c1⟩
def zBr : Nat → Value
 | 0 => Value.string { data := #[] }
 | 1 => Value.string { data := #[] }
 | 2 => Value.slice none 0 0
 | 3 => Value.slice none 0 0
 | _ => Value.int .i64 0
def MadeBr (who : ElHandle) (is : List ElItem) (fs : List ElHandle) (nx : Int) (w : World) (e : Ending) (w' : World) : Prop := ∃ (I' : Option Addr) (ci' : Nat) (F' : Option Addr) (cf' m : Nat), e = .returned (.agg #[.string who.1, .string who.2, .slice I' is.length ci', .slice F' fs.length cf', .int .i64 nx]) ∧ OwnE 4 encItem 69 w' w.heap.size I' ci' is ∧ (∀ b, blk I' = some b → b < m) ∧ w.heap.size ≤ m ∧ OwnE 2 encHandle 29 w' m F' cf' fs ∧ Below w.heap.size w w'
set_option maxHeartbeats 1600000 in
theorem toBridge_any (who : ElHandle) (I : Option Addr) (ci : Nat) (is : List ElItem) (F : Option Addr) (cf : Nat) (fs : List ElHandle) (nx : Int) (w : World) (B : Nat) (hI : RdE 4 encItem w B I is) (hF : RdE 2 encHandle w B F fs) (hB : B ≤ w.heap.size) (hl : is.length ≤ 1048576) (hlf : fs.length ≤ 1048576) :
    Calls Tryz.prog 9 #[.agg #[.string who.1, .string who.2, .slice I is.length ci, .slice F fs.length cf, .int .i64 nx]] w (MadeBr who is fs nx w) := by
 have hbA : Below w.heap.size w (((w.alloc (.cells #[Value.string who.1, Value.string who.2, Value.slice I is.length ci, Value.slice F fs.length cf, Value.int .i64 nx] 27)).alloc (.cells #[.string { data := #[] }, .string { data := #[] }, .slice none 0 0, .slice none 0 0, .int .i64 0] 33)).alloc (.cells #[.string { data := #[] }, .string { data := #[] }, .slice none 0 0, .slice none 0 0, .int .i64 0] 33)) := (((Below.refl _ _).alloc (Nat.le_refl _) _).alloc (by simp) _).alloc (by simp; omega) _
 have hzA : w.heap.size + 2 < (((w.alloc (.cells #[Value.string who.1, Value.string who.2, Value.slice I is.length ci, Value.slice F fs.length cf, Value.int .i64 nx] 27)).alloc (.cells #[.string { data := #[] }, .string { data := #[] }, .slice none 0 0, .slice none 0 0, .int .i64 0] 33)).alloc (.cells #[.string { data := #[] }, .string { data := #[] }, .slice none 0 0, .slice none 0 0, .int .i64 0] 33)).heap.size := by simp
 have oR : Own ((w.alloc (.cells #[Value.string who.1, Value.string who.2, Value.slice I is.length ci, Value.slice F fs.length cf, Value.int .i64 nx] 27)).alloc (.cells #[.string { data := #[] }, .string { data := #[] }, .slice none 0 0, .slice none 0 0, .int .i64 0] 33)) (w.heap.size + 1) 33 5 (some ⟨w.heap.size + 1, 0, none⟩) 1 1 zBr := by
  have := Own.lit (w.alloc (.cells #[Value.string who.1, Value.string who.2, Value.slice I is.length ci, Value.slice F fs.length cf, Value.int .i64 nx] 27)) 33 5 1 #[.string { data := #[] }, .string { data := #[] }, .slice none 0 0, .slice none 0 0, .int .i64 0] zBr (by simp only [maxLen]; omega) rfl
  rw [show ((w.alloc (.cells #[Value.string who.1, Value.string who.2, Value.slice I is.length ci, Value.slice F fs.length cf, Value.int .i64 nx] 27))).heap.size = w.heap.size + 1 by simp] at this
  exact this
 have oR := Own.below oR ((Below.refl _ _).alloc (Nat.le_refl _) (.cells #[.string { data := #[] }, .string { data := #[] }, .slice none 0 0, .slice none 0 0, .int .i64 0] 33))
 go_enter Tryz.func9, Tryz.ntmps9
 go_wp2_with fail
 refine (toHandle_any who.1 who.2 _).mono ?_
 rintro e w1 ⟨rfl, b1⟩
 obtain ⟨hc1, hf1⟩ := bcell b1
 have hz1 : w.heap.size + 2 < w1.heap.size := by have := b1.size; omega
 have y1a : w.heap.size < w1.heap.size := by omega
 have y1b : w.heap.size + 1 < w1.heap.size := by omega
 have y1c : w.heap.size + 1 + 1 < w1.heap.size := by omega
 have k1 := hbA.trans (b1.mono (by omega))
 have oR1 := Own.below oR b1
 clear b1 hzA hbA oR
 go_wp2_with fail
 refine (toItemS_any I ci B is _ (hI.below (Below.mono (B := w.heap.size) (by repeat (first | assumption | exact Below.refl _ _ | refine Below.setCell ?_ (by first | omega | (simp; done) | (simp; omega)) _)) hB)) (Nat.le_trans hB (Below.size (B := w.heap.size) (by repeat (first | assumption | exact Below.refl _ _ | refine Below.setCell ?_ (by first | omega | (simp; done) | (simp; omega)) _)))) hl).mono ?_
 rintro e w2 ⟨I', rfl, o2, b2⟩
 obtain ⟨hc2, hf2⟩ := bcell b2
 have k2 : Below w.heap.size w w2 := Below.trans (B := w.heap.size) (by repeat (first | assumption | exact Below.refl _ _ | refine Below.setCell ?_ (by first | omega | (simp; done) | (simp; omega)) _)) (b2.mono (by have := k1.size; simp; omega))
 have hz2 : w1.heap.size ≤ w2.heap.size := by have := b2.size; simpa using this
 have y2a : w.heap.size < w2.heap.size := by omega
 have y2b : w.heap.size + 1 < w2.heap.size := by omega
 have y2c : w.heap.size + 1 + 1 < w2.heap.size := by omega
 have o2' := Own.more (base' := w1.heap.size) o2 (by simp)
 have oR2 : Own w2 (w.heap.size + 1) 33 5 (some ⟨w.heap.size + 1, 0, none⟩) 1 1 zBr := Own.below (Own.kept (Own.kept oR1 (set_grown _ (w.heap.size + 1 + 1) 0 _) (.inr (by simp [blk]))) (set_grown _ (w.heap.size + 1 + 1) 1 _) (.inr (by simp [blk]))) b2
 have lo2 : Hid (∀ b, blk I' = some b → w1.heap.size ≤ b ∧ b < w2.heap.size) := Lib.hid (fun b hb => Own.lt o2' hb)
 clear b2 o2
 go_wp2_with fail
 refine (toHandleS_any F cf B fs _ (hF.below (Below.mono (B := w.heap.size) (by repeat (first | assumption | exact Below.refl _ _ | refine Below.setCell ?_ (by first | omega | (simp; done) | (simp; omega)) _)) hB)) (Nat.le_trans hB (Below.size (B := w.heap.size) (by repeat (first | assumption | exact Below.refl _ _ | refine Below.setCell ?_ (by first | omega | (simp; done) | (simp; omega)) _)))) hlf).mono ?_
 rintro e w3 ⟨F', rfl, o3, b3⟩
 obtain ⟨hc3, hf3⟩ := bcell b3
 have k3 : Below w.heap.size w w3 := Below.trans (B := w.heap.size) (by repeat (first | assumption | exact Below.refl _ _ | refine Below.setCell ?_ (by first | omega | (simp; done) | (simp; omega)) _)) (b3.mono (by have := k2.size; simp; omega))
 have hz3 : w2.heap.size ≤ w3.heap.size := by have := b3.size; simpa using this
 have y3a : w.heap.size < w3.heap.size := by omega
 have y3b : w.heap.size + 1 < w3.heap.size := by omega
 have y3c : w.heap.size + 1 + 1 < w3.heap.size := by omega
 have o2b := Own.below (own_set o2' _ _ _ (by omega)) b3
 have oR3 := Own.below (Own.kept oR2 (set_grown _ (w.heap.size + 1 + 1) 2 _) (.inr (by simp [blk]))) b3
 have o3' := Own.more (base' := w2.heap.size) o3 (by simp)
 have lo3 : Hid (∀ b, blk F' = some b → w2.heap.size ≤ b ∧ b < w3.heap.size) := Lib.hid (fun b hb => Own.lt o3' hb)
 clear b3 o3 o2'
 go_wp2_with fail
 have r0 := oR3.cell rfl (j := 0) (by omega)
 have rf0 := oR3.frozen rfl 0
 have r1 := oR3.cell rfl (j := 1) (by omega)
 have rf1 := oR3.frozen rfl 1
 have r2 := oR3.cell rfl (j := 2) (by omega)
 have rf2 := oR3.frozen rfl 2
 have r3 := oR3.cell rfl (j := 3) (by omega)
 have rf3 := oR3.frozen rfl 3
 have r4 := oR3.cell rfl (j := 4) (by omega)
 have rf4 := oR3.frozen rfl 4
 simp only [zBr] at r0 r1 r2 r3 r4
 have F1 := (own_set (own_set (own_set (own_set (own_set (own_set (own_set o2b (w.heap.size + 1 + 1) 3 (Value.slice F' fs.length fs.length) (by omega)) (w.heap.size + 1 + 1) 4 (Value.int .i64 nx) (by omega)) (w.heap.size + 1) 0 (Value.string who.1) (by omega)) (w.heap.size + 1) 1 (Value.string who.2) (by omega)) (w.heap.size + 1) 2 (Value.slice I' is.length is.length) (by omega)) (w.heap.size + 1) 3 (Value.slice F' fs.length fs.length) (by omega)) (w.heap.size + 1) 4 (Value.int .i64 nx) (by omega))
 have F2 := (own_set (own_set (own_set (own_set (own_set (own_set (own_set o3' (w.heap.size + 1 + 1) 3 (Value.slice F' fs.length fs.length) (by omega)) (w.heap.size + 1 + 1) 4 (Value.int .i64 nx) (by omega)) (w.heap.size + 1) 0 (Value.string who.1) (by omega)) (w.heap.size + 1) 1 (Value.string who.2) (by omega)) (w.heap.size + 1) 2 (Value.slice I' is.length is.length) (by omega)) (w.heap.size + 1) 3 (Value.slice F' fs.length fs.length) (by omega)) (w.heap.size + 1) 4 (Value.int .i64 nx) (by omega))
 have K3 := (((((((k3.setCell (p := ⟨w.heap.size + 1 + 1, 3, none⟩) (by show w.heap.size ≤ w.heap.size + 1 + 1; omega) (Value.slice F' fs.length fs.length)).setCell (p := ⟨w.heap.size + 1 + 1, 4, none⟩) (by show w.heap.size ≤ w.heap.size + 1 + 1; omega) (Value.int .i64 nx)).setCell (p := ⟨w.heap.size + 1, 0, none⟩) (by show w.heap.size ≤ w.heap.size + 1; omega) (Value.string who.1)).setCell (p := ⟨w.heap.size + 1, 1, none⟩) (by show w.heap.size ≤ w.heap.size + 1; omega) (Value.string who.2)).setCell (p := ⟨w.heap.size + 1, 2, none⟩) (by show w.heap.size ≤ w.heap.size + 1; omega) (Value.slice I' is.length is.length)).setCell (p := ⟨w.heap.size + 1, 3, none⟩) (by show w.heap.size ≤ w.heap.size + 1; omega) (Value.slice F' fs.length fs.length)).setCell (p := ⟨w.heap.size + 1, 4, none⟩) (by show w.heap.size ≤ w.heap.size + 1; omega) (Value.int .i64 nx))
 clear hc1 hc2 hf1 hf2 oR1 oR2
 exact bodyPost_ret (v := .agg #[.string who.1, .string who.2, .slice I' is.length is.length, .slice F' fs.length fs.length, .int .i64 nx]) (by simp [results, Tryz.results9, go_sem, r0, r1, r2, r3, r4]) rfl ⟨I', is.length, F', fs.length, w2.heap.size, rfl, Own.more F1 (by omega), fun b hb => (lo2.out b hb).2, by omega, F2, K3⟩
set_option maxHeartbeats 1600000 in
theorem eqBridge_self (who : ElHandle) (I : Option Addr) (ci : Nat) (is : List ElItem) (F : Option Addr) (cf : Nat) (fs : List ElHandle) (nx : Int) (I2 F2 : Option Addr) (ci2 cf2 : Nat) (w : World) (B : Nat) (hI : RdE 4 encItem w B I is) (hF : RdE 2 encHandle w B F fs) (hB : B ≤ w.heap.size) (hI2 : RdE 4 encItem w B I2 is) (hF2 : RdE 2 encHandle w B F2 fs) (hl : is.length ≤ 140737488351232) (hlf : fs.length ≤ 140737488351232) :
    Calls Tryz.prog 11 #[.agg #[.string who.1, .string who.2, .slice I is.length ci, .slice F fs.length cf, .int .i64 nx], .agg #[.string who.1, .string who.2, .slice I2 is.length ci2, .slice F2 fs.length cf2, .int .i64 nx]] w fun e w' => e = .returned (.bool true) ∧ Below w.heap.size w w' := by
 have hbA : Below w.heap.size w ((w.alloc (.cells #[Value.string who.1, Value.string who.2, Value.slice I is.length ci, Value.slice F fs.length cf, Value.int .i64 nx] 33)).alloc (.cells #[Value.string who.1, Value.string who.2, Value.slice I2 is.length ci2, Value.slice F2 fs.length cf2, Value.int .i64 nx] 33)) := ((Below.refl _ _).alloc (Nat.le_refl _) _).alloc (by simp) _
 have hzA : w.heap.size + 1 < ((w.alloc (.cells #[Value.string who.1, Value.string who.2, Value.slice I is.length ci, Value.slice F fs.length cf, Value.int .i64 nx] 33)).alloc (.cells #[Value.string who.1, Value.string who.2, Value.slice I2 is.length ci2, Value.slice F2 fs.length cf2, Value.int .i64 nx] 33)).heap.size := by simp
 have e1 := eqEl_true (α := ElHandle) (x := who) rfl
 have e2 := sameB_self is
 have e3 := sameB_self fs
 have q0 : ((w.alloc (.cells #[Value.string who.1, Value.string who.2, Value.slice I is.length ci, Value.slice F fs.length cf, Value.int .i64 nx] 33)).alloc (.cells #[Value.string who.1, Value.string who.2, Value.slice I2 is.length ci2, Value.slice F2 fs.length cf2, Value.int .i64 nx] 33)).cell? ⟨w.heap.size, 0, none⟩ = some (Value.string who.1) := by rw [((Below.refl (w.heap.size + 1) (w.alloc (.cells #[Value.string who.1, Value.string who.2, Value.slice I is.length ci, Value.slice F fs.length cf, Value.int .i64 nx] 33))).alloc (by simp) _).cell (by show w.heap.size < w.heap.size + 1; omega), World.cell?_alloc_at _ _ _ _ rfl]; rfl
 have q1 : ((w.alloc (.cells #[Value.string who.1, Value.string who.2, Value.slice I is.length ci, Value.slice F fs.length cf, Value.int .i64 nx] 33)).alloc (.cells #[Value.string who.1, Value.string who.2, Value.slice I2 is.length ci2, Value.slice F2 fs.length cf2, Value.int .i64 nx] 33)).cell? ⟨w.heap.size, 1, none⟩ = some (Value.string who.2) := by rw [((Below.refl (w.heap.size + 1) (w.alloc (.cells #[Value.string who.1, Value.string who.2, Value.slice I is.length ci, Value.slice F fs.length cf, Value.int .i64 nx] 33))).alloc (by simp) _).cell (by show w.heap.size < w.heap.size + 1; omega), World.cell?_alloc_at _ _ _ _ rfl]; rfl
 have q2 : ((w.alloc (.cells #[Value.string who.1, Value.string who.2, Value.slice I is.length ci, Value.slice F fs.length cf, Value.int .i64 nx] 33)).alloc (.cells #[Value.string who.1, Value.string who.2, Value.slice I2 is.length ci2, Value.slice F2 fs.length cf2, Value.int .i64 nx] 33)).cell? ⟨w.heap.size, 2, none⟩ = some (Value.slice I is.length ci) := by rw [((Below.refl (w.heap.size + 1) (w.alloc (.cells #[Value.string who.1, Value.string who.2, Value.slice I is.length ci, Value.slice F fs.length cf, Value.int .i64 nx] 33))).alloc (by simp) _).cell (by show w.heap.size < w.heap.size + 1; omega), World.cell?_alloc_at _ _ _ _ rfl]; rfl
 have q3 : ((w.alloc (.cells #[Value.string who.1, Value.string who.2, Value.slice I is.length ci, Value.slice F fs.length cf, Value.int .i64 nx] 33)).alloc (.cells #[Value.string who.1, Value.string who.2, Value.slice I2 is.length ci2, Value.slice F2 fs.length cf2, Value.int .i64 nx] 33)).cell? ⟨w.heap.size, 3, none⟩ = some (Value.slice F fs.length cf) := by rw [((Below.refl (w.heap.size + 1) (w.alloc (.cells #[Value.string who.1, Value.string who.2, Value.slice I is.length ci, Value.slice F fs.length cf, Value.int .i64 nx] 33))).alloc (by simp) _).cell (by show w.heap.size < w.heap.size + 1; omega), World.cell?_alloc_at _ _ _ _ rfl]; rfl
 have q4 : ((w.alloc (.cells #[Value.string who.1, Value.string who.2, Value.slice I is.length ci, Value.slice F fs.length cf, Value.int .i64 nx] 33)).alloc (.cells #[Value.string who.1, Value.string who.2, Value.slice I2 is.length ci2, Value.slice F2 fs.length cf2, Value.int .i64 nx] 33)).cell? ⟨w.heap.size, 4, none⟩ = some (Value.int .i64 nx) := by rw [((Below.refl (w.heap.size + 1) (w.alloc (.cells #[Value.string who.1, Value.string who.2, Value.slice I is.length ci, Value.slice F fs.length cf, Value.int .i64 nx] 33))).alloc (by simp) _).cell (by show w.heap.size < w.heap.size + 1; omega), World.cell?_alloc_at _ _ _ _ rfl]; rfl
 have p0 : ((w.alloc (.cells #[Value.string who.1, Value.string who.2, Value.slice I is.length ci, Value.slice F fs.length cf, Value.int .i64 nx] 33)).alloc (.cells #[Value.string who.1, Value.string who.2, Value.slice I2 is.length ci2, Value.slice F2 fs.length cf2, Value.int .i64 nx] 33)).cell? ⟨w.heap.size + 1, 0, none⟩ = some (Value.string who.1) := by rw [World.cell?_alloc_at _ _ _ _ (by simp)]; rfl
 have p1 : ((w.alloc (.cells #[Value.string who.1, Value.string who.2, Value.slice I is.length ci, Value.slice F fs.length cf, Value.int .i64 nx] 33)).alloc (.cells #[Value.string who.1, Value.string who.2, Value.slice I2 is.length ci2, Value.slice F2 fs.length cf2, Value.int .i64 nx] 33)).cell? ⟨w.heap.size + 1, 1, none⟩ = some (Value.string who.2) := by rw [World.cell?_alloc_at _ _ _ _ (by simp)]; rfl
 have p2 : ((w.alloc (.cells #[Value.string who.1, Value.string who.2, Value.slice I is.length ci, Value.slice F fs.length cf, Value.int .i64 nx] 33)).alloc (.cells #[Value.string who.1, Value.string who.2, Value.slice I2 is.length ci2, Value.slice F2 fs.length cf2, Value.int .i64 nx] 33)).cell? ⟨w.heap.size + 1, 2, none⟩ = some (Value.slice I2 is.length ci2) := by rw [World.cell?_alloc_at _ _ _ _ (by simp)]; rfl
 have p3 : ((w.alloc (.cells #[Value.string who.1, Value.string who.2, Value.slice I is.length ci, Value.slice F fs.length cf, Value.int .i64 nx] 33)).alloc (.cells #[Value.string who.1, Value.string who.2, Value.slice I2 is.length ci2, Value.slice F2 fs.length cf2, Value.int .i64 nx] 33)).cell? ⟨w.heap.size + 1, 3, none⟩ = some (Value.slice F2 fs.length cf2) := by rw [World.cell?_alloc_at _ _ _ _ (by simp)]; rfl
 have p4 : ((w.alloc (.cells #[Value.string who.1, Value.string who.2, Value.slice I is.length ci, Value.slice F fs.length cf, Value.int .i64 nx] 33)).alloc (.cells #[Value.string who.1, Value.string who.2, Value.slice I2 is.length ci2, Value.slice F2 fs.length cf2, Value.int .i64 nx] 33)).cell? ⟨w.heap.size + 1, 4, none⟩ = some (Value.int .i64 nx) := by rw [World.cell?_alloc_at _ _ _ _ (by simp)]; rfl
 go_enter Tryz.func11, Tryz.ntmps11
 go_wp2_with fail
 generalize ((w.alloc (.cells #[Value.string who.1, Value.string who.2, Value.slice I is.length ci, Value.slice F fs.length cf, Value.int .i64 nx] 33)).alloc (.cells #[Value.string who.1, Value.string who.2, Value.slice I2 is.length ci2, Value.slice F2 fs.length cf2, Value.int .i64 nx] 33)) = wA at *
 refine (eqHandle_any who.1 who.2 who.1 who.2 wA).mono ?_
 rintro e w1 ⟨rfl, b1⟩
 rw [show eqEl (α := ElHandle) (who.1, who.2) (who.1, who.2) = true from e1]
 have k1 := hbA.trans (b1.mono hbA.size)
 have z1 : w.heap.size + 1 < w1.heap.size := by have := b1.size; omega
 have q2' := (b1.cell (p := ⟨w.heap.size, 2, none⟩) (by show w.heap.size < _; omega)).trans q2
 have q3' := (b1.cell (p := ⟨w.heap.size, 3, none⟩) (by show w.heap.size < _; omega)).trans q3
 have q4' := (b1.cell (p := ⟨w.heap.size, 4, none⟩) (by show w.heap.size < _; omega)).trans q4
 have p2' := (b1.cell (p := ⟨w.heap.size + 1, 2, none⟩) (by show w.heap.size + 1 < _; omega)).trans p2
 have p3' := (b1.cell (p := ⟨w.heap.size + 1, 3, none⟩) (by show w.heap.size + 1 < _; omega)).trans p3
 have p4' := (b1.cell (p := ⟨w.heap.size + 1, 4, none⟩) (by show w.heap.size + 1 < _; omega)).trans p4
 go_wp2_with fail
 refine (eqItemS_any I I2 ci ci2 B is is w1 (hI.below (k1.mono hB)) (hI2.below (k1.mono hB)) (Nat.le_trans hB k1.size) hl hl).mono ?_
 rintro e w2 ⟨rfl, b2⟩
 rw [e2]
 have k2 := k1.trans (b2.mono k1.size)
 have z2 : w.heap.size + 1 < w2.heap.size := by have := b2.size; omega
 have q2'' := (b2.cell (p := ⟨w.heap.size, 2, none⟩) (by show w.heap.size < _; omega)).trans q2'
 have q3'' := (b2.cell (p := ⟨w.heap.size, 3, none⟩) (by show w.heap.size < _; omega)).trans q3'
 have q4'' := (b2.cell (p := ⟨w.heap.size, 4, none⟩) (by show w.heap.size < _; omega)).trans q4'
 have p2'' := (b2.cell (p := ⟨w.heap.size + 1, 2, none⟩) (by show w.heap.size + 1 < _; omega)).trans p2'
 have p3'' := (b2.cell (p := ⟨w.heap.size + 1, 3, none⟩) (by show w.heap.size + 1 < _; omega)).trans p3'
 have p4'' := (b2.cell (p := ⟨w.heap.size + 1, 4, none⟩) (by show w.heap.size + 1 < _; omega)).trans p4'
 go_wp2_with fail
 refine (eqHandleS_any F F2 cf cf2 B fs fs w2 (hF.below (k2.mono hB)) (hF2.below (k2.mono hB)) (Nat.le_trans hB k2.size) hlf hlf).mono ?_
 rintro e w3 ⟨rfl, b3⟩
 rw [e3]
 have k3 := k2.trans (b3.mono k2.size)
 have q2''' := (b3.cell (p := ⟨w.heap.size, 2, none⟩) (by show w.heap.size < _; omega)).trans q2''
 have q3''' := (b3.cell (p := ⟨w.heap.size, 3, none⟩) (by show w.heap.size < _; omega)).trans q3''
 have q4''' := (b3.cell (p := ⟨w.heap.size, 4, none⟩) (by show w.heap.size < _; omega)).trans q4''
 have p2''' := (b3.cell (p := ⟨w.heap.size + 1, 2, none⟩) (by show w.heap.size + 1 < _; omega)).trans p2''
 have p3''' := (b3.cell (p := ⟨w.heap.size + 1, 3, none⟩) (by show w.heap.size + 1 < _; omega)).trans p3''
 have p4''' := (b3.cell (p := ⟨w.heap.size + 1, 4, none⟩) (by show w.heap.size + 1 < _; omega)).trans p4''
 have en : (nx != nx) = false := by simp
 go_wp2_with fail
 go_ret
 exact ⟨rfl, k3⟩
end Go.Proofs.YtfnmlffpnmmcdaaGreatDoor
namespace Go.Proofs.YtfnmlffpnmmcdaaGreatDoor
set_option maxRecDepth 100000
open Go.RowKit
theorem kept_of {A R : Option Addr} (h : ∀ b, blk A = some b → blk R ≠ some b) : blk A = none ∨ blk A ≠ blk R := by
 cases hA : blk A with
 | none => exact .inl rfl
 | some b => exact .inr (fun e => h b hA e.symm)
set_option maxHeartbeats 800000 in
theorem markBridge_any (who : ElHandle) (nx : Int) (base : Nat) (I : Option Addr) (n ci : Nat) (f : Nat → Value) (F : Option Addr) (m cf : Nat) (g : Nat → Value) (k : Int) (w : World) (hI : Own w base 69 4 I n ci f) (hF : Own w base 29 2 F m cf g) (hb : base ≤ w.heap.size) (hn : n ≤ 1048576) (hm : m ≤ 1048576) (hk0 : 0 ≤ k) (hk : k ≤ 16777216) :
    Calls Tryz.prog 12 #[.agg #[Value.string who.1, Value.string who.2, Value.slice I n ci, Value.slice F m cf, Value.int .i64 nx], .int .i64 k] w fun e w' => e = .returned (.int .i64 (k + (n : Int) * 4 + (m : Int) * 2)) ∧ Own w' base 69 4 I n ci (mkItem k) ∧ Own w' base 29 2 F m cf (mkHandle (k + (n : Int) * 4)) ∧ (∀ b, b < w.heap.size → blk I ≠ some b → blk F ≠ some b → w'.heap[b]? = w.heap[b]?) ∧ Below base w w' := by
 have oB : Own (w.alloc (.cells #[Value.string who.1, Value.string who.2, Value.slice I n ci, Value.slice F m cf, Value.int .i64 nx] 33)) w.heap.size 33 5 (some ⟨w.heap.size, 0, none⟩) 1 1 (bxC who I n ci F m cf nx) := Own.lit w 33 5 1 #[Value.string who.1, Value.string who.2, Value.slice I n ci, Value.slice F m cf, Value.int .i64 nx] (bxC who I n ci F m cf nx) (by simp only [maxLen]; omega) rfl
 have bA : Below w.heap.size w (w.alloc (.cells #[Value.string who.1, Value.string who.2, Value.slice I n ci, Value.slice F m cf, Value.int .i64 nx] 33)) := (Below.refl _ _).alloc (Nat.le_refl _) _
 have a0 := (show _ = some (Value.string who.1) from oB.cell rfl (j := 0) (by omega))
 have a1 := (show _ = some (Value.string who.2) from oB.cell rfl (j := 1) (by omega))
 have a2 := (show _ = some (Value.slice I n ci) from oB.cell rfl (j := 2) (by omega))
 have a3 := (show _ = some (Value.slice F m cf) from oB.cell rfl (j := 3) (by omega))
 have a4 := (show _ = some (Value.int .i64 nx) from oB.cell rfl (j := 4) (by omega))
 have hIA := Own.below hI bA
 have hFA := Own.below hF bA
 have zA := bA.size
 go_enter Tryz.func12, Tryz.ntmps12
 go_wp2_with fail
 generalize (w.alloc (.cells #[Value.string who.1, Value.string who.2, Value.slice I n ci, Value.slice F m cf, Value.int .i64 nx] 33)) = wA at *
 refine (markItemS_any base I n ci f k wA hIA hn hk0 (by omega)).mono ?_
 rintro e w1 ⟨rfl, o1, g1⟩
 have oB1 := Own.kept oB g1 (kept_of (own_ne oB hIA (by decide)))
 have hF1 := Own.kept hFA g1 (kept_of (own_ne hFA hIA (by decide)))
 have z1 := g1.size
 clear a0 a1 a2 a3 a4
 have a0 := (show _ = some (Value.string who.1) from oB1.cell rfl (j := 0) (by omega))
 have a1 := (show _ = some (Value.string who.2) from oB1.cell rfl (j := 1) (by omega))
 have a2 := (show _ = some (Value.slice I n ci) from oB1.cell rfl (j := 2) (by omega))
 have a3 := (show _ = some (Value.slice F m cf) from oB1.cell rfl (j := 3) (by omega))
 have a4 := (show _ = some (Value.int .i64 nx) from oB1.cell rfl (j := 4) (by omega))
 go_wp2_with fail
 refine (markHandleS_any base F m cf g (k + (n : Int) * 4) w1 hF1 hm (by omega) (by omega)).mono ?_
 rintro e w2 ⟨rfl, o2, g2⟩
 have o1b := Own.kept o1 g2 (kept_of (own_ne o1 hF1 (by decide)))
 go_wp2_with fail
 go_ret
 refine ⟨rfl, o1b, o2, fun b hb h1 h2 => ?_, ?_⟩
 ·rw [g2.block b (by omega) (fun e => h2 e.symm), g1.block b (by omega) (fun e => h1 e.symm), ← (bA.block b hb)]
 ·exact ((bA.mono hb).trans (grown_below g1 (fun b hb => (Own.lt hIA hb).1) (by omega))).trans (grown_below g2 (fun b hb => (Own.lt hF1 hb).1) (by omega))
set_option maxHeartbeats 800000 in
theorem heldBridge_any (who : ElHandle) (nx : Int) (B : Nat) (I : Option Addr) (n ci : Nat) (F : Option Addr) (m cf : Nat) (k : Int) (w : World) (hI : Rd w B 4 I n (mkItem k)) (hF : Rd w B 2 F m (mkHandle (k + (n : Int) * 4))) (hB : B ≤ w.heap.size) (hn : n ≤ 1048576) (hm : m ≤ 1048576) (hk0 : 0 ≤ k) (hk : k ≤ 16777216) :
    Calls Tryz.prog 13 #[.agg #[Value.string who.1, Value.string who.2, Value.slice I n ci, Value.slice F m cf, Value.int .i64 nx], .int .i64 k] w fun e w' => e = .returned (.int .i64 (k + (n : Int) * 4 + (m : Int) * 2)) ∧ Below w.heap.size w w' := by
 have oB : Own (w.alloc (.cells #[Value.string who.1, Value.string who.2, Value.slice I n ci, Value.slice F m cf, Value.int .i64 nx] 33)) w.heap.size 33 5 (some ⟨w.heap.size, 0, none⟩) 1 1 (bxC who I n ci F m cf nx) := Own.lit w 33 5 1 #[Value.string who.1, Value.string who.2, Value.slice I n ci, Value.slice F m cf, Value.int .i64 nx] (bxC who I n ci F m cf nx) (by simp only [maxLen]; omega) rfl
 have bA : Below w.heap.size w (w.alloc (.cells #[Value.string who.1, Value.string who.2, Value.slice I n ci, Value.slice F m cf, Value.int .i64 nx] 33)) := (Below.refl _ _).alloc (Nat.le_refl _) _
 have a0 := (show _ = some (Value.string who.1) from oB.cell rfl (j := 0) (by omega))
 have a1 := (show _ = some (Value.string who.2) from oB.cell rfl (j := 1) (by omega))
 have a2 := (show _ = some (Value.slice I n ci) from oB.cell rfl (j := 2) (by omega))
 have a3 := (show _ = some (Value.slice F m cf) from oB.cell rfl (j := 3) (by omega))
 have a4 := (show _ = some (Value.int .i64 nx) from oB.cell rfl (j := 4) (by omega))
 have d1 : decide (k + (n : Int) * 4 < 0) = false := decide_eq_false (by omega)
 have d2 : decide (k + (n : Int) * 4 + (m : Int) * 2 < 0) = false := decide_eq_false (by omega)
 have zA := bA.size
 go_enter Tryz.func13, Tryz.ntmps13
 go_wp2_with fail
 generalize (w.alloc (.cells #[Value.string who.1, Value.string who.2, Value.slice I n ci, Value.slice F m cf, Value.int .i64 nx] 33)) = wA at *
 refine (heldItemS_any B I n ci k wA (Rd.below hI (bA.mono hB)) (by omega) hn hk0 (by omega)).mono ?_
 rintro e w1 ⟨rfl, b1⟩
 have oB1 := Own.below oB b1
 have k1 := bA.trans (b1.mono zA)
 have z1 := k1.size
 clear a0 a1 a2 a3 a4
 have a0 := (show _ = some (Value.string who.1) from oB1.cell rfl (j := 0) (by omega))
 have a1 := (show _ = some (Value.string who.2) from oB1.cell rfl (j := 1) (by omega))
 have a2 := (show _ = some (Value.slice I n ci) from oB1.cell rfl (j := 2) (by omega))
 have a3 := (show _ = some (Value.slice F m cf) from oB1.cell rfl (j := 3) (by omega))
 have a4 := (show _ = some (Value.int .i64 nx) from oB1.cell rfl (j := 4) (by omega))
 go_wp2_with fail
 refine (heldHandleS_any B F m cf (k + (n : Int) * 4) w1 (Rd.below hF (k1.mono hB)) (by omega) hm (by omega) (by omega)).mono ?_
 rintro e w2 ⟨rfl, b2⟩
 go_wp2_with fail
 go_ret
 exact ⟨rfl, k1.trans (b2.mono z1)⟩
end Go.Proofs.YtfnmlffpnmmcdaaGreatDoor
namespace Go.Proofs.YtfnmlffpnmmcdaaGreatDoor
set_option maxRecDepth 100000
open Go.ChangeShapes Go.WideShapes Go.ChangeAt Go.RowKit
def okwItem (x : ElItem) : Prop := x.1.size ≤ maxLen ∧ x.2.1.size ≤ maxLen ∧ x.2.2.1.size ≤ maxLen ∧ (Lit.int .i64 x.2.2.2).wf = true
theorem cells_Item : Tryz.prog.cellsOf 102 = 4 := by kernel_rfl
theorem okwszItem {x : ElItem} (h : okwItem x) : x.1.size ≤ maxLen ∧ x.2.1.size ≤ maxLen ∧ x.2.2.1.size ≤ maxLen := ⟨h.1, h.2.1, h.2.2.1⟩
theorem cells_Item_string : Tryz.prog.cellsOf 9 = 1 := by kernel_rfl
theorem cells_Item_int : Tryz.prog.cellsOf 3 = 1 := by kernel_rfl
section
variable {H : Type} {enc : TypeId × Value → H} {W : World}
theorem el_Item (m : Nat) (cs : List Value) (y : DataW H × List MemPlace) (h : DataW.trod enc Tryz.prog W 0 (fun _ => true) true m 102 cs = some y) : ∃ x : ElItem, okwItem x ∧ ∀ j, j < 4 → cs[j]? = some (encItem x j) := by
 obtain ⟨xs, k, _, _, hlen, hxl, hf⟩ := DataW.trod_struct Tryz.underlying102 h
 have hlen' : cs.length = 4 := hlen.trans cells_Item
 match cs, hlen', xs, hxl with
 | [c0, c1, c2, c3], _, [y0, y1, y2, y3], _ =>
  have f0 : DataW.trod enc Tryz.prog W 0 (fun _ => true) true k 9 [c0] = some y0 := by simpa [cells_Item_string] using hf 0 _ rfl
  obtain ⟨a, e0, _, w0⟩ := DataW.trod_string Tryz.underlying9 f0
  simp only [List.cons.injEq, and_true] at e0
  subst e0
  have f1 : DataW.trod enc Tryz.prog W 0 (fun _ => true) true k 9 [c1] = some y1 := by simpa [cells_Item_string] using hf 1 _ rfl
  obtain ⟨b, e1, _, w1⟩ := DataW.trod_string Tryz.underlying9 f1
  simp only [List.cons.injEq, and_true] at e1
  subst e1
  have f2 : DataW.trod enc Tryz.prog W 0 (fun _ => true) true k 9 [c2] = some y2 := by simpa [cells_Item_string] using hf 2 _ rfl
  obtain ⟨c, e2, _, w2⟩ := DataW.trod_string Tryz.underlying9 f2
  simp only [List.cons.injEq, and_true] at e2
  subst e2
  have f3 : DataW.trod enc Tryz.prog W 0 (fun _ => true) true k 3 [c3] = some y3 := by simpa [cells_Item_int] using hf 3 _ rfl
  obtain ⟨d, e3, _, w3⟩ := DataW.trod_int Tryz.underlying3 f3
  simp only [List.cons.injEq, and_true] at e3
  subst e3
  exact ⟨(a, b, c, d), ⟨w0, w1, w2, w3⟩, fun j hj => by
   rcases (by omega : j = 0 ∨ j = 1 ∨ j = 2 ∨ j = 3) with rfl | rfl | rfl | rfl <;> rfl⟩
end
end Go.Proofs.YtfnmlffpnmmcdaaGreatDoor
namespace Go.Proofs.YtfnmlffpnmmcdaaGreatDoor
set_option maxRecDepth 100000
open Go.ChangeShapes Go.WideShapes Go.ChangeAt Go.RowKit
def okwHandle (x : ElHandle) : Prop := x.1.size ≤ maxLen ∧ x.2.size ≤ maxLen
theorem cells_Handle : Tryz.prog.cellsOf 23 = 2 := by kernel_rfl
theorem okwszHandle {x : ElHandle} (h : okwHandle x) : x.1.size ≤ maxLen ∧ x.2.size ≤ maxLen := ⟨h.1, h.2⟩
theorem okwVHandle_0 {x : ElHandle} (h : okwHandle x) : x.1.size ≤ maxLen := h.1
theorem okwVHandle_1 {x : ElHandle} (h : okwHandle x) : x.2.size ≤ maxLen := h.2
theorem cells_Handle_string : Tryz.prog.cellsOf 9 = 1 := by kernel_rfl
section
variable {H : Type} {enc : TypeId × Value → H} {W : World}
theorem el_Handle (m : Nat) (cs : List Value) (y : DataW H × List MemPlace) (h : DataW.trod enc Tryz.prog W 0 (fun _ => true) true m 23 cs = some y) : ∃ x : ElHandle, okwHandle x ∧ ∀ j, j < 2 → cs[j]? = some (encHandle x j) := by
 obtain ⟨xs, k, _, _, hlen, hxl, hf⟩ := DataW.trod_struct Tryz.underlying23 h
 have hlen' : cs.length = 2 := hlen.trans cells_Handle
 match cs, hlen', xs, hxl with
 | [c0, c1], _, [y0, y1], _ =>
  have f0 : DataW.trod enc Tryz.prog W 0 (fun _ => true) true k 9 [c0] = some y0 := by simpa [cells_Handle_string] using hf 0 _ rfl
  obtain ⟨a, e0, _, w0⟩ := DataW.trod_string Tryz.underlying9 f0
  simp only [List.cons.injEq, and_true] at e0
  subst e0
  have f1 : DataW.trod enc Tryz.prog W 0 (fun _ => true) true k 9 [c1] = some y1 := by simpa [cells_Handle_string] using hf 1 _ rfl
  obtain ⟨b, e1, _, w1⟩ := DataW.trod_string Tryz.underlying9 f1
  simp only [List.cons.injEq, and_true] at e1
  subst e1
  exact ⟨(a, b), ⟨w0, w1⟩, fun j hj => by
   rcases (by omega : j = 0 ∨ j = 1) with rfl | rfl <;> rfl⟩
end
end Go.Proofs.YtfnmlffpnmmcdaaGreatDoor
namespace Go.Proofs.YtfnmlffpnmmcdaaGreatDoor
set_option maxRecDepth 100000
open Go.ChangeShapes Go.WideShapes Go.ChangeAt Go.RowKit
section
variable {H : Type} {enc : TypeId × Value → H} {W : World}
theorem open_raw {P : Program} {α : Type} [Inhabited α] {sz : Nat} {en : α → Nat → Value} {ok : α → Prop} {t e : TypeId} {fuel : Nat} {cs : List Value} {y : DataW H × List MemPlace} (ht : P.underlying t = some (.slice e)) (hC : P.cellsOf e = sz) (hsz : 0 < sz)
    (hel : ∀ (n : Nat) (cs : List Value) (y : DataW H × List MemPlace), DataW.trod enc P W 0 (fun _ => true) true n e cs = some y → ∃ x : α, ok x ∧ ∀ j, j < sz → cs[j]? = some (en x j))
    (hf : DataW.trod enc P W 0 (fun _ => true) true fuel t cs = some y) :
    ∃ (A : Option Addr) (cap : Nat) (xs : List α), cs = [.slice A xs.length cap] ∧ RdE sz en W W.heap.size A xs ∧ xs.length ≤ cap ∧ cap ≤ maxLen ∧ ∀ x ∈ xs, ok x := by
 obtain ⟨d, p⟩ := y
 rcases Go.Deep.open_slice ht hf with ⟨hcs, _⟩ | ⟨a, len, cap, m, n, D, Pl, hcs, _, hl, hm, hmm, _, hi⟩
 ·exact ⟨none, 0, [], hcs, fun h => absurd h (by simp), Nat.le_refl _, Nat.zero_le _, by simp⟩
 ·have hm' : m = cap := by simpa using hmm
  subst hm'
  have hex : ∀ i, i < m → ∃ x : α, ok x ∧ ∀ j, j < sz → W.cell? (a.add (i * sz + j)) = some (en x j) := by
   intro i him
   obtain ⟨cs', hc, hy⟩ := hi i him
   obtain ⟨x, hx, hxj⟩ := hel _ _ _ hy
   obtain ⟨_, hcl, hat⟩ := World.cells?_some hc
   refine ⟨x, hx, fun j hj => ?_⟩
   rw [hC] at hat
   rw [← hxj j hj, ← hat j hj, Go.Deep.add_add]
  obtain ⟨f, hfx⟩ := Go.Deep.choose_lt hex
  have hlen : ((List.range len).map f).length = len := by simp
  have hgt : ∀ k, k < len → gt ((List.range len).map f) k = f k := fun k hk => by unfold gt; simp [hk]
  refine ⟨some a, m, (List.range len).map f, by rw [hlen]; exact hcs, ?_, by rw [hlen]; exact hl, hm, fun x hx => ?_⟩
  ·intro h0
   rw [hlen] at h0
   obtain ⟨b, off, spot⟩ := a
   have hc0 := (hfx 0 (by omega)).2 0 hsz
   have hspot : spot = none := by simpa [Addr.add] using World.cell?_spot hc0
   subst hspot
   have hb := World.block_lt_of_cell? W _ hc0
   rw [add_none] at hb
   refine ⟨b, off, rfl, hb, fun j hj => ?_⟩
   rw [hlen] at hj
   have hjk : j / sz < len := (Nat.div_lt_iff_lt_mul hsz).2 hj
   have hj' := (hfx (j / sz) (by omega)).2 (j % sz) (Nat.mod_lt _ hsz)
   rw [add_none, Nat.mul_comm, Nat.div_add_mod] at hj'
   unfold cE
   rw [hj', hgt _ hjk]
  ·simp only [List.mem_map, List.mem_range] at hx
   obtain ⟨k, hk, rfl⟩ := hx
   exact (hfx k (by omega)).1
theorem cells_Bridge : Tryz.prog.cellsOf 27 = 5 := by kernel_rfl
theorem cells_Bridge_items : Tryz.prog.cellsOf 24 = 1 := by kernel_rfl
theorem cells_Bridge_fans : Tryz.prog.cellsOf 25 = 1 := by kernel_rfl
theorem open_Bridge {base : Nat} {v : Value} {d : DataW H} {p : List MemPlace} (hv : Value.okWide Tryz.prog W .any base 27 v) (h : DataW.Trod enc Tryz.prog W 0 (fun _ => true) true 27 v d p) :
    ∃ (who : ElHandle) (I : Option Addr) (ci : Nat) (is : List ElItem) (F : Option Addr) (cf : Nat) (fs : List ElHandle) (nx : Int), v = .agg #[.string who.1, .string who.2, .slice I is.length ci, .slice F fs.length cf, .int .i64 nx] ∧ okwHandle who ∧
     (RdE 4 encItem W W.heap.size I is ∧ is.length ≤ ci ∧ ci ≤ maxLen ∧ ∀ x ∈ is, okwItem x) ∧ (RdE 2 encHandle W W.heap.size F fs ∧ fs.length ≤ cf ∧ cf ≤ maxLen ∧ ∀ x ∈ fs, okwHandle x) ∧ (Lit.int .i64 nx).wf = true := by
 obtain ⟨cs, rfl, hsz⟩ := okWide_struct Tryz.underlying27 hv
 obtain ⟨fuel, hf⟩ := h
 obtain ⟨xs, k, _, _, hlen, hxl, hf⟩ := DataW.trod_struct Tryz.underlying27 hf
 obtain ⟨cs⟩ := cs
 have hlen' : cs.length = 5 := hlen.trans cells_Bridge
 match cs, hlen', xs, hxl with
 | [c0, c1, c2, c3, c4], _, [y0, y1, y2, y3], _ =>
  have f0 : DataW.trod enc Tryz.prog W 0 (fun _ => true) true k 23 [c0, c1] = some y0 := by simpa [Value.cells, cells_Handle] using hf 0 _ rfl
  have f1 : DataW.trod enc Tryz.prog W 0 (fun _ => true) true k 24 [c2] = some y1 := by simpa [Value.cells, cells_Handle, cells_Bridge_items] using hf 1 _ rfl
  have f2 : DataW.trod enc Tryz.prog W 0 (fun _ => true) true k 25 [c3] = some y2 := by simpa [Value.cells, cells_Handle, cells_Bridge_items, cells_Bridge_fans] using hf 2 _ rfl
  have f3 : DataW.trod enc Tryz.prog W 0 (fun _ => true) true k 3 [c4] = some y3 := by simpa [Value.cells, cells_Handle, cells_Bridge_items, cells_Bridge_fans, cells_Item_int] using hf 3 _ rfl
  obtain ⟨who, ow, cw⟩ := el_Handle k _ _ f0
  have e0 : c0 = encHandle who 0 := by simpa using cw 0 (by omega)
  have e1 : c1 = encHandle who 1 := by simpa using cw 1 (by omega)
  obtain ⟨I, ci, is, e2, rI, lI, mI, wI⟩ := open_raw Tryz.underlying24 cells_Item (by omega) el_Item f1
  obtain ⟨F, cf, fs, e3, rF, lF, mF, wF⟩ := open_raw Tryz.underlying25 cells_Handle (by omega) el_Handle f2
  obtain ⟨nx, e4, _, w4⟩ := DataW.trod_int Tryz.underlying3 f3
  simp only [List.cons.injEq, and_true] at e2 e3 e4
  subst e0; subst e1; subst e2; subst e3; subst e4
  exact ⟨who, I, ci, is, F, cf, fs, nx, rfl, ow, ⟨rI, lI, mI, wI⟩, ⟨rF, lF, mF, wF⟩, w4⟩
end
end Go.Proofs.YtfnmlffpnmmcdaaGreatDoor
namespace Go.Proofs.YtfnmlffpnmmcdaaGreatDoor
set_option maxRecDepth 100000
open Go.RowKit
theorem blR_fd {b : ElBr} {line : ByteArray} : fdB (blR b line).1.2.1 = true ∧ fvB (blR b line).1.2.2.1 = true := by
 unfold blR
 split
 ·next h => exact ⟨(brv_of (blOf_valid h)).2.1, (brv_of (blOf_valid h)).2.2.1⟩
 ·exact ⟨fd_mk (by simp) (fun x hx => by cases hx) List.Pairwise.nil, fv_nil⟩
def From (m : Nat) (A : Option Addr) : Prop := ∀ b, blk A = some b → m ≤ b
def Upto (m : Nat) (A : Option Addr) : Prop := ∀ b, blk A = some b → b < m
theorem ne_of_bounds {A R : Option Addr} {m : Nat} (h : Upto m A) (h2 : From m R) : ∀ b, blk A = some b → blk R ≠ some b := fun b hb e => by
 have := h b hb
 have := h2 b e
 omega
theorem ne_of_bounds' {A R : Option Addr} {m : Nat} (h : From m A) (h2 : Upto m R) : ∀ b, blk A = some b → blk R ≠ some b := fun b hb e => by
 have := h b hb
 have := h2 b e
 omega
def madeS (who : ElHandle) (is : List ElItem) (fs : List ElHandle) (nx : Int) : Spec := fun v w => ∃ (I' : Option Addr) (ci' : Nat) (F' : Option Addr) (cf' : Nat), v = .agg #[.string who.1, .string who.2, .slice I' is.length ci', .slice F' fs.length cf', .int .i64 nx] ∧ RdE 4 encItem w w.heap.size I' is ∧ RdE 2 encHandle w w.heap.size F' fs
theorem madeS_stb (who : ElHandle) (is : List ElItem) (fs : List ElHandle) (nx : Int) : StbB (madeS who is fs nx) := fun _ _ _ h ⟨A, c, A', c', h1, h2, h3⟩ => ⟨A, c, A', c', h1, (h2.below h).more h.size, (h3.below h).more h.size⟩
set_option maxHeartbeats 6400000 in
theorem FnExactBridgeLine_walk (who : ElHandle) (I : Option Addr) (ci : Nat) (is : List ElItem) (F : Option Addr) (cf : Nat) (fs : List ElHandle) (nx : Int) (line : ByteArray) (w : World) (ow : okwHandle who) (hI : RdE 4 encItem w w.heap.size I is) (hF : RdE 2 encHandle w w.heap.size F fs) (lI : is.length ≤ ci) (mI : ci ≤ maxLen) (wI : ∀ x ∈ is, okwItem x) (lF : fs.length ≤ cf) (mF : cf ≤ maxLen) (wF : ∀ x ∈ fs, okwHandle x) (ol : line.size ≤ maxLen) (hT : KwTab w) (hE : EsTab w) :
    Calls Tryz.prog 3 #[.agg #[Value.string who.1, Value.string who.2, Value.slice I is.length ci, Value.slice F fs.length cf, Value.int .i64 nx], .string line] w fun e w' => e = .returned (.bool true) ∧ Below w.heap.size w w' := by
 unfold maxLen at mI mF
 have HIZ := Lib.hid (show ∀ k, k < is.length → (gt is k).1.size ≤ maxLen ∧ (gt is k).2.1.size ≤ maxLen ∧ (gt is k).2.2.1.size ≤ maxLen from fun k hk => okwszItem (wI _ (gt_mem hk)))
 have HFZ := Lib.hid (show ∀ k, k < fs.length → (gt fs k).1.size ≤ maxLen ∧ (gt fs k).2.size ≤ maxLen from fun k hk => okwszHandle (wF _ (gt_mem hk)))
 have hw0 := okwVHandle_0 ow
 have hw1 := okwVHandle_1 ow
 have HT := Lib.hid hT
 have HE := Lib.hid hE
 clear wI wF ow hT hE
 have oA : Own (w.alloc (.cells #[Value.string who.1, Value.string who.2, Value.slice I is.length ci, Value.slice F fs.length cf, Value.int .i64 nx] 27)) w.heap.size 27 5 (some ⟨w.heap.size, 0, none⟩) 1 1 (bxC who I is.length ci F fs.length cf nx) := Own.lit w 27 5 1 #[Value.string who.1, Value.string who.2, Value.slice I is.length ci, Value.slice F fs.length cf, Value.int .i64 nx] (bxC who I is.length ci F fs.length cf nx) (by simp only [maxLen]; omega) rfl
 have kA : Below w.heap.size w (w.alloc (.cells #[Value.string who.1, Value.string who.2, Value.slice I is.length ci, Value.slice F fs.length cf, Value.int .i64 nx] 27)) := (Below.refl _ _).alloc (Nat.le_refl _) _
 by_cases hlong : 1048576 < line.size
 ·have g0 : decide ((1048576 : Int) < (line.size : Int)) = true := decide_eq_true (by omega)
  go_enter Tryz.func3, Tryz.ntmps3
  go_wp2_with fail
  go_ret
  exact ⟨rfl, kA⟩
 ·have g0 : decide ((1048576 : Int) < (line.size : Int)) = false := decide_eq_false (by omega)
  have ol2 : line.size ≤ maxLen := ol
  unfold maxLen at ol
  have hsz := fun W h h2 hB => szBridge_any who I ci is F cf fs nx 1048576 W w.heap.size h h2 hB (by omega) (by omega) HIZ.out HFZ.out hw0 hw1 (by omega) (by omega)
  have a0 := (show _ = some (Value.string who.1) from oA.cell rfl (j := 0) (by omega))
  have a1 := (show _ = some (Value.string who.2) from oA.cell rfl (j := 1) (by omega))
  have a2 := (show _ = some (Value.slice I is.length ci) from oA.cell rfl (j := 2) (by omega))
  have a3 := (show _ = some (Value.slice F fs.length cf) from oA.cell rfl (j := 3) (by omega))
  have a4 := (show _ = some (Value.int .i64 nx) from oA.cell rfl (j := 4) (by omega))
  by_cases hz : (byBridge who is fs : Int) ≤ 1048576
  ·have hil : is.length ≤ 1048576 := by unfold byBridge totItem at hz; omega
   have hfl : fs.length ≤ 1048576 := by unfold byBridge totHandle at hz; omega
   have hd : decide (1048576 - (byBridge who is fs : Int) < 0) = false := decide_eq_false (by omega)
   rw [szL_yes hz] at hsz
   have HS := Lib.hid hsz
   clear hsz
   go_enter Tryz.func3, Tryz.ntmps3
   go_wp2_with fail
   generalize (w.alloc (.cells #[Value.string who.1, Value.string who.2, Value.slice I is.length ci, Value.slice F fs.length cf, Value.int .i64 nx] 27)) = wA at *
   refine (HS.out wA (hI.below kA) (hF.below kA) kA.size).mono ?_
   rintro e v0 ⟨rfl, b0⟩
   have k0 := kA.trans (b0.mono kA.size)
   have oA0 := Own.below oA b0
   clear hz oA kA b0 a0 a1 a2 a3 a4
   have a0 := (show _ = some (Value.string who.1) from oA0.cell rfl (j := 0) (by omega))
   have a1 := (show _ = some (Value.string who.2) from oA0.cell rfl (j := 1) (by omega))
   have a2 := (show _ = some (Value.slice I is.length ci) from oA0.cell rfl (j := 2) (by omega))
   have a3 := (show _ = some (Value.slice F fs.length cf) from oA0.cell rfl (j := 3) (by omega))
   have a4 := (show _ = some (Value.int .i64 nx) from oA0.cell rfl (j := 4) (by omega))
   go_wp2_with fail
   refine (toBridge_any who I ci is F cf fs nx v0 w.heap.size (hI.below k0) (hF.below k0) k0.size hil hfl).mono ?_
   rintro e v1 ⟨I1, c1, F1, d1, mm1, rfl, o1a, _, hm1, o1b', b1⟩
   have o1b := Own.more o1b' hm1
   have z1 := b1.size
   clear a0 a1 a2 a3 a4
   have k1 := k0.trans (b1.mono k0.size)
   have oA1 := Own.below oA0 b1
   clear oA0 k0
   clear b1 o1b' hm1
   go_wp2_with fail
   refine (specBridgeLine_any line who is fs nx I1 c1 F1 d1 v1.heap.size v1 (OwnE.rd o1a) (OwnE.rd o1b) (Nat.le_refl _) hil hfl (OwnE.capLe o1a) HIZ.out HFZ.out hw0 hw1 ol2 (Own.shp o1b)).mono ?_
   rintro e v2 ⟨Iw, iw, Fw, fw, rfl, pWI2, pWF2, b2⟩
   have z2 := b2.size
   clear o1a o1b
   have k2 := k1.trans (b2.mono k1.size)
   have oA2 := Own.below oA1 b2
   clear oA1 k1
   clear b2
   obtain ⟨hRi, hRf⟩ := blR_fd (b := (who, is, fs, nx)) (line := line)
   have HRS := Lib.hid (rfl : (blR (who, is, fs, nx) line) = (blR (who, is, fs, nx) line))
   clear HRS
   skip
   have HRR : ∃ r, r = (blR (who, is, fs, nx) line) := ⟨_, rfl⟩
   obtain ⟨r, hr⟩ := HRR
   rw [← hr] at hRi hRf pWI2 pWF2 ⊢
   have HR := Lib.hid hr
   clear hr
   have ri8 := fd_len hRi
   have rf10 := (Fv.of hRf).1
   clear hRi hRf
   have LWI : Upto v2.heap.size Iw := fun b hb => (Own.lt pWI2 hb).2
   have LWF : Upto v2.heap.size Fw := fun b hb => (Own.lt pWF2 hb).2
   have oW3 : Own (v2.alloc (.cells #[Value.string r.1.1.1, Value.string r.1.1.2, Value.slice Iw r.1.2.1.length iw, Value.slice Fw r.1.2.2.1.length fw, Value.int .i64 r.1.2.2.2] 33)) v2.heap.size 33 5 (some ⟨v2.heap.size, 0, none⟩) 1 1 (bxC r.1.1 Iw r.1.2.1.length iw Fw r.1.2.2.1.length fw r.1.2.2.2) := Own.lit v2 33 5 1 #[Value.string r.1.1.1, Value.string r.1.1.2, Value.slice Iw r.1.2.1.length iw, Value.slice Fw r.1.2.2.1.length fw, Value.int .i64 r.1.2.2.2] (bxC r.1.1 Iw r.1.2.1.length iw Fw r.1.2.2.1.length fw r.1.2.2.2) (by simp only [maxLen]; omega) rfl
   have bb3 : Below v2.heap.size v2 (v2.alloc (.cells #[Value.string r.1.1.1, Value.string r.1.1.2, Value.slice Iw r.1.2.1.length iw, Value.slice Fw r.1.2.2.1.length fw, Value.int .i64 r.1.2.2.2] 33)) := (Below.refl _ _).alloc (Nat.le_refl _) _
   have k3 := k2.trans (bb3.mono k2.size)
   have oA3 := Own.below oA2 bb3
   have pWI3 := Own.below pWI2 bb3
   have pWF3 := Own.below pWF2 bb3
   have zz3 := bb3.size
   have zk3 := k3.size
   clear oA2 pWI2 pWF2 k2
   go_upto_region 8 with fail
   clear bb3
   generalize (v2.alloc (.cells #[Value.string r.1.1.1, Value.string r.1.1.2, Value.slice Iw r.1.2.1.length iw, Value.slice Fw r.1.2.2.1.length fw, Value.int .i64 r.1.2.2.2] 33)) = v3 at *
   have a0 := (show _ = some (Value.string who.1) from oA3.cell rfl (j := 0) (by omega))
   have a1 := (show _ = some (Value.string who.2) from oA3.cell rfl (j := 1) (by omega))
   have a2 := (show _ = some (Value.slice I is.length ci) from oA3.cell rfl (j := 2) (by omega))
   have a3 := (show _ = some (Value.slice F fs.length cf) from oA3.cell rfl (j := 3) (by omega))
   have a4 := (show _ = some (Value.int .i64 nx) from oA3.cell rfl (j := 4) (by omega))
   go_wp2_with fail
   refine (toBridge_any who I ci is F cf fs nx v3 w.heap.size (hI.below k3) (hF.below k3) k3.size hil hfl).mono ?_
   rintro e v4 ⟨I2, c2, F2, d2, mm4, rfl, o4a, _, hm4, o4b', b4⟩
   have o4b := Own.more o4b' hm4
   have z4 := b4.size
   clear a0 a1 a2 a3 a4
   have k4 := k3.trans (b4.mono k3.size)
   have oA4 := Own.below oA3 b4
   have pWI4 := Own.below pWI3 b4
   have pWF4 := Own.below pWF3 b4
   have oW4 := Own.below oW3 b4
   clear oA3 pWI3 pWF3 oW3 k3
   clear b4 o4b' hm4
   have pXI4 := o4a
   have pXF4 := o4b
   clear o4a o4b
   have LXI : From v3.heap.size I2 := fun b hb => (Own.lt pXI4 hb).1
   have LXF : From v3.heap.size F2 := fun b hb => (Own.lt pXF4 hb).1
   have UXI : Upto v4.heap.size I2 := fun b hb => (Own.lt pXI4 hb).2
   have UXF : Upto v4.heap.size F2 := fun b hb => (Own.lt pXF4 hb).2
   have oX5 : Own (v4.alloc (.cells #[Value.string who.1, Value.string who.2, Value.slice I2 is.length c2, Value.slice F2 fs.length d2, Value.int .i64 nx] 33)) v4.heap.size 33 5 (some ⟨v4.heap.size, 0, none⟩) 1 1 (bxC who I2 is.length c2 F2 fs.length d2 nx) := Own.lit v4 33 5 1 #[Value.string who.1, Value.string who.2, Value.slice I2 is.length c2, Value.slice F2 fs.length d2, Value.int .i64 nx] (bxC who I2 is.length c2 F2 fs.length d2 nx) (by simp only [maxLen]; omega) rfl
   have bb5 : Below v4.heap.size v4 (v4.alloc (.cells #[Value.string who.1, Value.string who.2, Value.slice I2 is.length c2, Value.slice F2 fs.length d2, Value.int .i64 nx] 33)) := (Below.refl _ _).alloc (Nat.le_refl _) _
   have k5 := k4.trans (bb5.mono k4.size)
   have oA5 := Own.below oA4 bb5
   have pWI5 := Own.below pWI4 bb5
   have pWF5 := Own.below pWF4 bb5
   have oW5 := Own.below oW4 bb5
   have pXI5 := Own.below pXI4 bb5
   have pXF5 := Own.below pXF4 bb5
   have zz5 := bb5.size
   have zk5 := k5.size
   clear oA4 pWI4 pWF4 oW4 pXI4 pXF4 k4
   go_upto_region 9 with fail
   clear bb5
   generalize (v4.alloc (.cells #[Value.string who.1, Value.string who.2, Value.slice I2 is.length c2, Value.slice F2 fs.length d2, Value.int .i64 nx] 33)) = v5 at *
   have a0 := (show _ = some (Value.string who.1) from oX5.cell rfl (j := 0) (by omega))
   have a1 := (show _ = some (Value.string who.2) from oX5.cell rfl (j := 1) (by omega))
   have a2 := (show _ = some (Value.slice I2 is.length c2) from oX5.cell rfl (j := 2) (by omega))
   have a3 := (show _ = some (Value.slice F2 fs.length d2) from oX5.cell rfl (j := 3) (by omega))
   have a4 := (show _ = some (Value.int .i64 nx) from oX5.cell rfl (j := 4) (by omega))
   go_wp2_with fail
   refine (implBridgeLine_any line who is fs nx I2 c2 F2 d2 v5.heap.size v5 (OwnE.rd pXI5) (OwnE.rd pXF5) (Nat.le_refl _) hil hfl (OwnE.capLe pXI5) HIZ.out HFZ.out hw0 hw1 ol2 (HT.out.below k5 (Nat.le_refl _)) (HE.out.below k5 (Nat.le_refl _))).mono ?_
   rintro e v6 ⟨Ig, ig, Fg, fg, rfl, pGI6, pGF6, b6⟩
   have z6 := b6.size
   rw [← HR.out] at pGI6 pGF6 ⊢
   clear a0 a1 a2 a3 a4
   have LGI : From v5.heap.size Ig := fun b hb => (Own.lt pGI6 hb).1
   have LGF : From v5.heap.size Fg := fun b hb => (Own.lt pGF6 hb).1
   have k6 := k5.trans (b6.mono k5.size)
   have oA6 := Own.below oA5 b6
   have pWI6 := Own.below pWI5 b6
   have pWF6 := Own.below pWF5 b6
   have oW6 := Own.below oW5 b6
   have pXI6 := Own.below pXI5 b6
   have pXF6 := Own.below pXF5 b6
   have oX6 := Own.below oX5 b6
   clear oA5 pWI5 pWF5 oW5 pXI5 pXF5 oX5 k5
   clear b6
   have oG7 : Own (v6.alloc (.cells #[Value.string r.1.1.1, Value.string r.1.1.2, Value.slice Ig r.1.2.1.length ig, Value.slice Fg r.1.2.2.1.length fg, Value.int .i64 r.1.2.2.2] 33)) v6.heap.size 33 5 (some ⟨v6.heap.size, 0, none⟩) 1 1 (bxC r.1.1 Ig r.1.2.1.length ig Fg r.1.2.2.1.length fg r.1.2.2.2) := Own.lit v6 33 5 1 #[Value.string r.1.1.1, Value.string r.1.1.2, Value.slice Ig r.1.2.1.length ig, Value.slice Fg r.1.2.2.1.length fg, Value.int .i64 r.1.2.2.2] (bxC r.1.1 Ig r.1.2.1.length ig Fg r.1.2.2.1.length fg r.1.2.2.2) (by simp only [maxLen]; omega) rfl
   have bb7 : Below v6.heap.size v6 (v6.alloc (.cells #[Value.string r.1.1.1, Value.string r.1.1.2, Value.slice Ig r.1.2.1.length ig, Value.slice Fg r.1.2.2.1.length fg, Value.int .i64 r.1.2.2.2] 33)) := (Below.refl _ _).alloc (Nat.le_refl _) _
   have k7 := k6.trans (bb7.mono k6.size)
   have oA7 := Own.below oA6 bb7
   have pWI7 := Own.below pWI6 bb7
   have pWF7 := Own.below pWF6 bb7
   have oW7 := Own.below oW6 bb7
   have pXI7 := Own.below pXI6 bb7
   have pXF7 := Own.below pXF6 bb7
   have oX7 := Own.below oX6 bb7
   have pGI7 := Own.below pGI6 bb7
   have pGF7 := Own.below pGF6 bb7
   have zz7 := bb7.size
   have zk7 := k7.size
   clear oA6 pWI6 pWF6 oW6 pXI6 pXF6 oX6 pGI6 pGF6 k6
   go_upto_region 10 with fail
   clear bb7
   generalize (v6.alloc (.cells #[Value.string r.1.1.1, Value.string r.1.1.2, Value.slice Ig r.1.2.1.length ig, Value.slice Fg r.1.2.2.1.length fg, Value.int .i64 r.1.2.2.2] 33)) = v7 at *
   have q1 : (r.2.toList != r.2.toList) = false := by simp
   have a0 := (show _ = some (Value.string r.1.1.1) from oG7.cell rfl (j := 0) (by omega))
   have a1 := (show _ = some (Value.string r.1.1.2) from oG7.cell rfl (j := 1) (by omega))
   have a2 := (show _ = some (Value.slice Ig r.1.2.1.length ig) from oG7.cell rfl (j := 2) (by omega))
   have a3 := (show _ = some (Value.slice Fg r.1.2.2.1.length fg) from oG7.cell rfl (j := 3) (by omega))
   have a4 := (show _ = some (Value.int .i64 r.1.2.2.2) from oG7.cell rfl (j := 4) (by omega))
   have y0 := (show _ = some (Value.string r.1.1.1) from oW7.cell rfl (j := 0) (by omega))
   have y1 := (show _ = some (Value.string r.1.1.2) from oW7.cell rfl (j := 1) (by omega))
   have y2 := (show _ = some (Value.slice Iw r.1.2.1.length iw) from oW7.cell rfl (j := 2) (by omega))
   have y3 := (show _ = some (Value.slice Fw r.1.2.2.1.length fw) from oW7.cell rfl (j := 3) (by omega))
   have y4 := (show _ = some (Value.int .i64 r.1.2.2.2) from oW7.cell rfl (j := 4) (by omega))
   go_wp2_with fail
   refine (eqBridge_self r.1.1 Ig ig r.1.2.1 Fg fg r.1.2.2.1 r.1.2.2.2 Iw Fw iw fw v7 v7.heap.size (OwnE.rd pGI7) (OwnE.rd pGF7) (Nat.le_refl _) (OwnE.rd pWI7) (OwnE.rd pWF7) (by omega) (by omega)).mono ?_
   rintro e v8 ⟨rfl, b8⟩
   have z8 := b8.size
   clear a0 a1 a2 a3 a4 y0 y1 y2 y3 y4
   have k8 := k7.trans (b8.mono k7.size)
   have oA8 := Own.below oA7 b8
   have pWI8 := Own.below pWI7 b8
   have pWF8 := Own.below pWF7 b8
   have oW8 := Own.below oW7 b8
   have pXI8 := Own.below pXI7 b8
   have pXF8 := Own.below pXF7 b8
   have oX8 := Own.below oX7 b8
   have pGI8 := Own.below pGI7 b8
   have pGF8 := Own.below pGF7 b8
   have oG8 := Own.below oG7 b8
   clear oA7 pWI7 pWF7 oW7 pXI7 pXF7 oX7 pGI7 pGF7 oG7 k7
   clear b8
   have a0 := (show _ = some (Value.string who.1) from oX8.cell rfl (j := 0) (by omega))
   have a1 := (show _ = some (Value.string who.2) from oX8.cell rfl (j := 1) (by omega))
   have a2 := (show _ = some (Value.slice I2 is.length c2) from oX8.cell rfl (j := 2) (by omega))
   have a3 := (show _ = some (Value.slice F2 fs.length d2) from oX8.cell rfl (j := 3) (by omega))
   have a4 := (show _ = some (Value.int .i64 nx) from oX8.cell rfl (j := 4) (by omega))
   have y0 := (show _ = some (Value.string who.1) from oA8.cell rfl (j := 0) (by omega))
   have y1 := (show _ = some (Value.string who.2) from oA8.cell rfl (j := 1) (by omega))
   have y2 := (show _ = some (Value.slice I is.length ci) from oA8.cell rfl (j := 2) (by omega))
   have y3 := (show _ = some (Value.slice F fs.length cf) from oA8.cell rfl (j := 3) (by omega))
   have y4 := (show _ = some (Value.int .i64 nx) from oA8.cell rfl (j := 4) (by omega))
   have zX := (oX8.lt (b := v4.heap.size) rfl).2
   have zAh := (oA8.lt (b := w.heap.size) rfl).2
   go_wp2_with fail
   refine wp_region_makes 4 [(isS (.agg #[Value.string who.1, Value.string who.2, Value.slice I2 is.length c2, Value.slice F2 fs.length d2, Value.int .i64 nx])), (isS (.agg #[Value.string who.1, Value.string who.2, Value.slice I is.length ci, Value.slice F fs.length cf, Value.int .i64 nx])), (madeS who is fs nx), (isS (.bool true))] [0, 0, 0, 0] (by kernel_rfl) (by kernel_rfl) (by rfl) (by rfl) (by rfl) ?_ ?_ ?_
   ·repeat (first | exact stbB_nil | refine stbB_cons (by first | exact isS_stb _ | exact madeS_stb _ _ _ _) ?_)
   ·simp only [List.take_succ_cons, List.take_zero]
    refine looseSteps_cons (fun k a' w' hk0' hk1' hR hG hkp hd => ?_) ?_
    ·have hR0 : Below v8.drew.heap.size v8.drew w' := hR
     have hRb : Below v8.heap.size v8 w' := ⟨hR0.os, hR0.tape, hR0.output, hR0.size, hR0.block⟩
     have k8' : a'.tmps.getD 8 undef = .pointer (some ⟨v4.heap.size, 0, none⟩) := hkp 8 (by rfl)
     have rr0 := (hRb.cell (p := ⟨v4.heap.size, 0, none⟩) (by exact zX)).trans a0
     have rr1 := (hRb.cell (p := ⟨v4.heap.size, 1, none⟩) (by exact zX)).trans a1
     have rr2 := (hRb.cell (p := ⟨v4.heap.size, 2, none⟩) (by exact zX)).trans a2
     have rr3 := (hRb.cell (p := ⟨v4.heap.size, 3, none⟩) (by exact zX)).trans a3
     have rr4 := (hRb.cell (p := ⟨v4.heap.size, 4, none⟩) (by exact zX)).trans a4
     unfold looseRun
     go_simp
     exact ⟨Below.refl _ _, trivial, rfl⟩
    refine looseSteps_cons (fun k a' w' hk0' hk1' hR hG hkp hd => ?_) ?_
    ·have hR0 : Below v8.drew.heap.size v8.drew w' := hR
     have hRb : Below v8.heap.size v8 w' := ⟨hR0.os, hR0.tape, hR0.output, hR0.size, hR0.block⟩
     have k2' : a'.tmps.getD 2 undef = .pointer (some ⟨w.heap.size, 0, none⟩) := hkp 2 (by rfl)
     have rr0 := (hRb.cell (p := ⟨w.heap.size, 0, none⟩) (by exact zAh)).trans y0
     have rr1 := (hRb.cell (p := ⟨w.heap.size, 1, none⟩) (by exact zAh)).trans y1
     have rr2 := (hRb.cell (p := ⟨w.heap.size, 2, none⟩) (by exact zAh)).trans y2
     have rr3 := (hRb.cell (p := ⟨w.heap.size, 3, none⟩) (by exact zAh)).trans y3
     have rr4 := (hRb.cell (p := ⟨w.heap.size, 4, none⟩) (by exact zAh)).trans y4
     unfold looseRun
     go_simp
     exact ⟨Below.refl _ _, trivial, rfl⟩
    refine looseSteps_cons (fun k a' w' hk0' hk1' hR hG hkp hd => ?_) ?_
    ·have hR0 : Below v8.drew.heap.size v8.drew w' := hR
     have hRb : Below v8.heap.size v8 w' := ⟨hR0.os, hR0.tape, hR0.output, hR0.size, hR0.block⟩
     have e1 := hd.1 rfl
     have e1' : a'.tmps.getD 49 undef = _ := e1
     have e1q := e1'
     rw [Array.getD_eq_getD_getElem?] at e1q
     unfold looseRun
     go_simp
     refine ⟨rfl, (toBridge_any who I ci is F cf fs nx w' w.heap.size (hI.below (k8.trans (hRb.mono k8.size))) (hF.below (k8.trans (hRb.mono k8.size))) (k8.trans (hRb.mono k8.size)).size hil hfl).mono ?_⟩
     rintro e u ⟨I5, c5, F5, d5, m5, rfl, p5, _, h5, q5, b5⟩
     exact ⟨_, rfl, b5, trivial, I5, c5, F5, d5, rfl, OwnE.rd p5, OwnE.rd q5⟩
    refine looseSteps_cons (fun k a' w' hk0' hk1' hR hG hkp hd => ?_) ?_
    ·have hR0 : Below v8.drew.heap.size v8.drew w' := hR
     have hRb : Below v8.heap.size v8 w' := ⟨hR0.os, hR0.tape, hR0.output, hR0.size, hR0.block⟩
     have e1 := hd.1 rfl
     obtain ⟨I5, c5, F5, d5, e2, p5, q5⟩ := hd.2.1 rfl
     have e1' : a'.tmps.getD 48 undef = _ := e1
     have e1q := e1'
     rw [Array.getD_eq_getD_getElem?] at e1q
     have e2' : a'.tmps.getD 50 undef = _ := e2
     have e2q := e2'
     rw [Array.getD_eq_getD_getElem?] at e2q
     unfold looseRun
     go_simp
     refine ⟨rfl, (eqBridge_self who I2 c2 is F2 d2 fs nx I5 F5 c5 d5 w' w'.heap.size (((OwnE.rd pXI8).below hRb).more hRb.size) (((OwnE.rd pXF8).below hRb).more hRb.size) (Nat.le_refl _) p5 q5 (by omega) (by omega)).mono ?_⟩
     rintro e u ⟨rfl, b5⟩
     exact ⟨_, rfl, b5, trivial, rfl⟩
    exact looseSteps_nil
   ·intro v9 b9
    simp only [List.take_succ_cons, List.take_zero, List.drop_succ_cons, List.drop_zero]
    refine looseAll_cons fun x48 h48 => ?_
    refine looseAll_cons fun x49 h49 => ?_
    refine looseAll_cons fun x50 h50 => ?_
    refine looseAll_cons fun x51 h51 => ?_
    refine looseAll_nil ?_
    have e1 : x51 = .bool true := h51
    subst e1
    clear h48 h49 h50 h51 a0 a1 a2 a3 a4 y0 y1 y2 y3 y4
    have z9 := b9.size
    have k9 := k8.trans (b9.mono k8.size)
    have oA9 := Own.below oA8 b9
    have pWI9 := Own.below pWI8 b9
    have pWF9 := Own.below pWF8 b9
    have oW9 := Own.below oW8 b9
    have pXI9 := Own.below pXI8 b9
    have pXF9 := Own.below pXF8 b9
    have oX9 := Own.below oX8 b9
    have pGI9 := Own.below pGI8 b9
    have pGF9 := Own.below pGF8 b9
    have oG9 := Own.below oG8 b9
    clear oA8 pWI8 pWF8 oW8 pXI8 pXF8 oX8 pGI8 pGF8 oG8 k8
    clear b9
    simp only [Act.put, List.setIfInBounds_toArray, List.set_cons_zero, List.set_cons_succ]
    have a0 := (show _ = some (Value.string who.1) from oX9.cell rfl (j := 0) (by omega))
    have a1 := (show _ = some (Value.string who.2) from oX9.cell rfl (j := 1) (by omega))
    have a2 := (show _ = some (Value.slice I2 is.length c2) from oX9.cell rfl (j := 2) (by omega))
    have a3 := (show _ = some (Value.slice F2 fs.length d2) from oX9.cell rfl (j := 3) (by omega))
    have a4 := (show _ = some (Value.int .i64 nx) from oX9.cell rfl (j := 4) (by omega))
    go_wp2_with fail
    refine (markBridge_any who nx v3.heap.size I2 is.length c2 (cE 4 encItem is) F2 fs.length d2 (cE 2 encHandle fs) 1 v9 pXI9 pXF9 (by omega) hil hfl (by omega) (by omega)).mono ?_
    rintro e v10 ⟨rfl, _, _, hfr, bm⟩
    clear a0 a1 a2 a3 a4
    have zm := bm.size
    have zw3 : w.heap.size ≤ v3.heap.size := by omega
    have k10 := k9.trans (bm.mono zw3)
    have oA10 := Own.keepB oA9 (fun b hb => hfr b (Own.lt oA9 hb).2 (own_ne oA9 pXI9 (by decide) b hb) (own_ne oA9 pXF9 (by decide) b hb))
    have oW10 := Own.keepB oW9 (fun b hb => hfr b (Own.lt oW9 hb).2 (own_ne oW9 pXI9 (by decide) b hb) (own_ne oW9 pXF9 (by decide) b hb))
    have oG10 := Own.keepB oG9 (fun b hb => hfr b (Own.lt oG9 hb).2 (own_ne oG9 pXI9 (by decide) b hb) (own_ne oG9 pXF9 (by decide) b hb))
    have pWI10 := Own.keepB pWI9 (fun b hb => hfr b (Own.lt pWI9 hb).2 (ne_of_bounds (fun b hb => Nat.lt_of_lt_of_le (LWI b hb) zz3) LXI b hb) (own_ne pWI9 pXF9 (by decide) b hb))
    have pWF10 := Own.keepB pWF9 (fun b hb => hfr b (Own.lt pWF9 hb).2 (own_ne pWF9 pXI9 (by decide) b hb) (ne_of_bounds (fun b hb => Nat.lt_of_lt_of_le (LWF b hb) zz3) LXF b hb))
    have pGI10 := Own.keepB pGI9 (fun b hb => hfr b (Own.lt pGI9 hb).2 (ne_of_bounds' (fun b hb => Nat.le_trans zz5 (LGI b hb)) UXI b hb) (own_ne pGI9 pXF9 (by decide) b hb))
    have pGF10 := Own.keepB pGF9 (fun b hb => hfr b (Own.lt pGF9 hb).2 (own_ne pGF9 pXI9 (by decide) b hb) (ne_of_bounds' (fun b hb => Nat.le_trans zz5 (LGF b hb)) UXF b hb))
    clear oA9 oW9 oX9 oG9 pWI9 pWF9 pXI9 pXF9 pGI9 pGF9 k9 hfr bm
    have gm : decide ((1 : Int) + (is.length : Int) * 4 + (fs.length : Int) * 2 < 0) = false := decide_eq_false (by omega)
    have a0 := (show _ = some (Value.string r.1.1.1) from oG10.cell rfl (j := 0) (by omega))
    have a1 := (show _ = some (Value.string r.1.1.2) from oG10.cell rfl (j := 1) (by omega))
    have a2 := (show _ = some (Value.slice Ig r.1.2.1.length ig) from oG10.cell rfl (j := 2) (by omega))
    have a3 := (show _ = some (Value.slice Fg r.1.2.2.1.length fg) from oG10.cell rfl (j := 3) (by omega))
    have a4 := (show _ = some (Value.int .i64 r.1.2.2.2) from oG10.cell rfl (j := 4) (by omega))
    have y0 := (show _ = some (Value.string r.1.1.1) from oW10.cell rfl (j := 0) (by omega))
    have y1 := (show _ = some (Value.string r.1.1.2) from oW10.cell rfl (j := 1) (by omega))
    have y2 := (show _ = some (Value.slice Iw r.1.2.1.length iw) from oW10.cell rfl (j := 2) (by omega))
    have y3 := (show _ = some (Value.slice Fw r.1.2.2.1.length fw) from oW10.cell rfl (j := 3) (by omega))
    have y4 := (show _ = some (Value.int .i64 r.1.2.2.2) from oW10.cell rfl (j := 4) (by omega))
    go_wp2_with fail
    refine (eqBridge_self r.1.1 Ig ig r.1.2.1 Fg fg r.1.2.2.1 r.1.2.2.2 Iw Fw iw fw v10 v10.heap.size (OwnE.rd pGI10) (OwnE.rd pGF10) (Nat.le_refl _) (OwnE.rd pWI10) (OwnE.rd pWF10) (by omega) (by omega)).mono ?_
    rintro e v11 ⟨rfl, b11⟩
    have z11 := b11.size
    clear a0 a1 a2 a3 a4 y0 y1 y2 y3 y4
    have k11 := k10.trans (b11.mono k10.size)
    have oA11 := Own.below oA10 b11
    have oW11 := Own.below oW10 b11
    have oG11 := Own.below oG10 b11
    have pWI11 := Own.below pWI10 b11
    have pWF11 := Own.below pWF10 b11
    have pGI11 := Own.below pGI10 b11
    have pGF11 := Own.below pGF10 b11
    clear oA10 oW10 oG10 pWI10 pWF10 pGI10 pGF10 k10
    clear b11
    have a0 := (show _ = some (Value.string r.1.1.1) from oG11.cell rfl (j := 0) (by omega))
    have a1 := (show _ = some (Value.string r.1.1.2) from oG11.cell rfl (j := 1) (by omega))
    have a2 := (show _ = some (Value.slice Ig r.1.2.1.length ig) from oG11.cell rfl (j := 2) (by omega))
    have a3 := (show _ = some (Value.slice Fg r.1.2.2.1.length fg) from oG11.cell rfl (j := 3) (by omega))
    have a4 := (show _ = some (Value.int .i64 r.1.2.2.2) from oG11.cell rfl (j := 4) (by omega))
    have zb5 : v5.heap.size ≤ v11.heap.size := by omega
    go_wp2_with fail
    refine (markBridge_any r.1.1 r.1.2.2.2 v5.heap.size Ig r.1.2.1.length ig (cE 4 encItem r.1.2.1) Fg r.1.2.2.1.length fg (cE 2 encHandle r.1.2.2.1) 1 v11 (Own.rebase pGI11 LGI) (Own.rebase pGF11 LGF) zb5 (by omega) (by omega) (by omega) (by omega)).mono ?_
    rintro e v12 ⟨rfl, mI12, mF12, hfr, bm⟩
    clear a0 a1 a2 a3 a4
    have zn := bm.size
    have k12 := k11.trans (bm.mono (by omega))
    have oA12 := Own.keepB oA11 (fun b hb => hfr b (Own.lt oA11 hb).2 (own_ne oA11 pGI11 (by decide) b hb) (own_ne oA11 pGF11 (by decide) b hb))
    have oW12 := Own.keepB oW11 (fun b hb => hfr b (Own.lt oW11 hb).2 (own_ne oW11 pGI11 (by decide) b hb) (own_ne oW11 pGF11 (by decide) b hb))
    have oG12 := Own.keepB oG11 (fun b hb => hfr b (Own.lt oG11 hb).2 (own_ne oG11 pGI11 (by decide) b hb) (own_ne oG11 pGF11 (by decide) b hb))
    have pWI12 := Own.keepB pWI11 (fun b hb => hfr b (Own.lt pWI11 hb).2 (ne_of_bounds (fun b hb => Nat.lt_of_lt_of_le (LWI b hb) (by omega)) LGI b hb) (own_ne pWI11 pGF11 (by decide) b hb))
    have pWF12 := Own.keepB pWF11 (fun b hb => hfr b (Own.lt pWF11 hb).2 (own_ne pWF11 pGI11 (by decide) b hb) (ne_of_bounds (fun b hb => Nat.lt_of_lt_of_le (LWF b hb) (by omega)) LGF b hb))
    clear oA11 oW11 oG11 pWI11 pWF11 pGI11 pGF11 k11 hfr bm
    have gq : decide ((1 : Int) + (r.1.2.1.length : Int) * 4 + (r.1.2.2.1.length : Int) * 2 < 0) = false := decide_eq_false (by omega)
    have gn : (((1 : Int) + (r.1.2.1.length : Int) * 4 + (r.1.2.2.1.length : Int) * 2) != ((1 : Int) + (r.1.2.1.length : Int) * 4 + (r.1.2.2.1.length : Int) * 2)) = false := by simp
    have a0 := (show _ = some (Value.string r.1.1.1) from oG12.cell rfl (j := 0) (by omega))
    have a1 := (show _ = some (Value.string r.1.1.2) from oG12.cell rfl (j := 1) (by omega))
    have a2 := (show _ = some (Value.slice Ig r.1.2.1.length ig) from oG12.cell rfl (j := 2) (by omega))
    have a3 := (show _ = some (Value.slice Fg r.1.2.2.1.length fg) from oG12.cell rfl (j := 3) (by omega))
    have a4 := (show _ = some (Value.int .i64 r.1.2.2.2) from oG12.cell rfl (j := 4) (by omega))
    go_wp2_with fail
    refine (heldBridge_any r.1.1 r.1.2.2.2 v12.heap.size Ig r.1.2.1.length ig Fg r.1.2.2.1.length fg 1 v12 (Own.rd mI12) (Own.rd mF12) (Nat.le_refl _) (by omega) (by omega) (by omega) (by omega)).mono ?_
    rintro e v13 ⟨rfl, b13⟩
    have z13 := b13.size
    clear a0 a1 a2 a3 a4
    have k13 := k12.trans (b13.mono k12.size)
    have oA13 := Own.below oA12 b13
    have oW13 := Own.below oW12 b13
    have oG13 := Own.below oG12 b13
    have pWI13 := Own.below pWI12 b13
    have pWF13 := Own.below pWF12 b13
    have mI13 := Own.below mI12 b13
    have mF13 := Own.below mF12 b13
    clear oA12 oW12 oG12 pWI12 pWF12 mI12 mF12 k12
    clear b13
    have a0 := (show _ = some (Value.string who.1) from oA13.cell rfl (j := 0) (by omega))
    have a1 := (show _ = some (Value.string who.2) from oA13.cell rfl (j := 1) (by omega))
    have a2 := (show _ = some (Value.slice I is.length ci) from oA13.cell rfl (j := 2) (by omega))
    have a3 := (show _ = some (Value.slice F fs.length cf) from oA13.cell rfl (j := 3) (by omega))
    have a4 := (show _ = some (Value.int .i64 nx) from oA13.cell rfl (j := 4) (by omega))
    go_wp2_with fail
    refine (toBridge_any who I ci is F cf fs nx v13 w.heap.size (hI.below k13) (hF.below k13) k13.size hil hfl).mono ?_
    rintro e v14 ⟨I3, c3, F3, d3, mm14, rfl, o14a, _, hm14, o14b', b14⟩
    have o14b := Own.more o14b' hm14
    have z14 := b14.size
    clear a0 a1 a2 a3 a4
    have k14 := k13.trans (b14.mono k13.size)
    have oA14 := Own.below oA13 b14
    have oW14 := Own.below oW13 b14
    have oG14 := Own.below oG13 b14
    have pWI14 := Own.below pWI13 b14
    have pWF14 := Own.below pWF13 b14
    have mI14 := Own.below mI13 b14
    have mF14 := Own.below mF13 b14
    clear oA13 oW13 oG13 pWI13 pWF13 mI13 mF13 k13
    clear b14 o14b' hm14
    go_wp2_with fail
    refine (implBridgeLine_any line who is fs nx I3 c3 F3 d3 v14.heap.size v14 (OwnE.rd o14a) (OwnE.rd o14b) (Nat.le_refl _) hil hfl (OwnE.capLe o14a) HIZ.out HFZ.out hw0 hw1 ol2 (HT.out.below k14 (Nat.le_refl _)) (HE.out.below k14 (Nat.le_refl _))).mono ?_
    rintro e v15 ⟨Ih, ih, Fh, fh, rfl, pHI15, pHF15, b15⟩
    have z15 := b15.size
    rw [← HR.out] at pHI15 pHF15 ⊢
    clear o14a o14b
    have k15 := k14.trans (b15.mono k14.size)
    have oA15 := Own.below oA14 b15
    have oW15 := Own.below oW14 b15
    have oG15 := Own.below oG14 b15
    have pWI15 := Own.below pWI14 b15
    have pWF15 := Own.below pWF14 b15
    have mI15 := Own.below mI14 b15
    have mF15 := Own.below mF14 b15
    clear oA14 oW14 oG14 pWI14 pWF14 mI14 mF14 k14
    clear b15
    have oH16 : Own (v15.alloc (.cells #[Value.string r.1.1.1, Value.string r.1.1.2, Value.slice Ih r.1.2.1.length ih, Value.slice Fh r.1.2.2.1.length fh, Value.int .i64 r.1.2.2.2] 33)) v15.heap.size 33 5 (some ⟨v15.heap.size, 0, none⟩) 1 1 (bxC r.1.1 Ih r.1.2.1.length ih Fh r.1.2.2.1.length fh r.1.2.2.2) := Own.lit v15 33 5 1 #[Value.string r.1.1.1, Value.string r.1.1.2, Value.slice Ih r.1.2.1.length ih, Value.slice Fh r.1.2.2.1.length fh, Value.int .i64 r.1.2.2.2] (bxC r.1.1 Ih r.1.2.1.length ih Fh r.1.2.2.1.length fh r.1.2.2.2) (by simp only [maxLen]; omega) rfl
    have bb16 : Below v15.heap.size v15 (v15.alloc (.cells #[Value.string r.1.1.1, Value.string r.1.1.2, Value.slice Ih r.1.2.1.length ih, Value.slice Fh r.1.2.2.1.length fh, Value.int .i64 r.1.2.2.2] 33)) := (Below.refl _ _).alloc (Nat.le_refl _) _
    have k16 := k15.trans (bb16.mono k15.size)
    have oA16 := Own.below oA15 bb16
    have oW16 := Own.below oW15 bb16
    have oG16 := Own.below oG15 bb16
    have pWI16 := Own.below pWI15 bb16
    have pWF16 := Own.below pWF15 bb16
    have mI16 := Own.below mI15 bb16
    have mF16 := Own.below mF15 bb16
    have pHI16 := Own.below pHI15 bb16
    have pHF16 := Own.below pHF15 bb16
    have zz16 := bb16.size
    have zk16 := k16.size
    clear oA15 oW15 oG15 pWI15 pWF15 mI15 mF15 pHI15 pHF15 k15
    go_upto_region 27 with fail
    clear bb16
    generalize (v15.alloc (.cells #[Value.string r.1.1.1, Value.string r.1.1.2, Value.slice Ih r.1.2.1.length ih, Value.slice Fh r.1.2.2.1.length fh, Value.int .i64 r.1.2.2.2] 33)) = v16 at *
    have a0 := (show _ = some (Value.string r.1.1.1) from oH16.cell rfl (j := 0) (by omega))
    have a1 := (show _ = some (Value.string r.1.1.2) from oH16.cell rfl (j := 1) (by omega))
    have a2 := (show _ = some (Value.slice Ih r.1.2.1.length ih) from oH16.cell rfl (j := 2) (by omega))
    have a3 := (show _ = some (Value.slice Fh r.1.2.2.1.length fh) from oH16.cell rfl (j := 3) (by omega))
    have a4 := (show _ = some (Value.int .i64 r.1.2.2.2) from oH16.cell rfl (j := 4) (by omega))
    have y0 := (show _ = some (Value.string r.1.1.1) from oW16.cell rfl (j := 0) (by omega))
    have y1 := (show _ = some (Value.string r.1.1.2) from oW16.cell rfl (j := 1) (by omega))
    have y2 := (show _ = some (Value.slice Iw r.1.2.1.length iw) from oW16.cell rfl (j := 2) (by omega))
    have y3 := (show _ = some (Value.slice Fw r.1.2.2.1.length fw) from oW16.cell rfl (j := 3) (by omega))
    have y4 := (show _ = some (Value.int .i64 r.1.2.2.2) from oW16.cell rfl (j := 4) (by omega))
    go_wp2_with fail
    refine (eqBridge_self r.1.1 Ih ih r.1.2.1 Fh fh r.1.2.2.1 r.1.2.2.2 Iw Fw iw fw v16 v16.heap.size (OwnE.rd pHI16) (OwnE.rd pHF16) (Nat.le_refl _) (OwnE.rd pWI16) (OwnE.rd pWF16) (by omega) (by omega)).mono ?_
    rintro e v17 ⟨rfl, b17⟩
    have z17 := b17.size
    clear a0 a1 a2 a3 a4 y0 y1 y2 y3 y4
    have k17 := k16.trans (b17.mono k16.size)
    have oA17 := Own.below oA16 b17
    have oW17 := Own.below oW16 b17
    have oG17 := Own.below oG16 b17
    have pWI17 := Own.below pWI16 b17
    have pWF17 := Own.below pWF16 b17
    have mI17 := Own.below mI16 b17
    have mF17 := Own.below mF16 b17
    have pHI17 := Own.below pHI16 b17
    have pHF17 := Own.below pHF16 b17
    have oH17 := Own.below oH16 b17
    clear oA16 oW16 oG16 pWI16 pWF16 mI16 mF16 pHI16 pHF16 oH16 k16
    have a0 := (show _ = some (Value.string r.1.1.1) from oG17.cell rfl (j := 0) (by omega))
    have a1 := (show _ = some (Value.string r.1.1.2) from oG17.cell rfl (j := 1) (by omega))
    have a2 := (show _ = some (Value.slice Ig r.1.2.1.length ig) from oG17.cell rfl (j := 2) (by omega))
    have a3 := (show _ = some (Value.slice Fg r.1.2.2.1.length fg) from oG17.cell rfl (j := 3) (by omega))
    have a4 := (show _ = some (Value.int .i64 r.1.2.2.2) from oG17.cell rfl (j := 4) (by omega))
    go_wp2_with fail
    refine (heldBridge_any r.1.1 r.1.2.2.2 v17.heap.size Ig r.1.2.1.length ig Fg r.1.2.2.1.length fg 1 v17 (Own.rd mI17) (Own.rd mF17) (Nat.le_refl _) (by omega) (by omega) (by omega) (by omega)).mono ?_
    rintro e v18 ⟨rfl, b18⟩
    have z18 := b18.size
    clear a0 a1 a2 a3 a4
    have k18 := k17.trans (b18.mono k17.size)
    have oA18 := Own.below oA17 b18
    have oW18 := Own.below oW17 b18
    have oG18 := Own.below oG17 b18
    have pWI18 := Own.below pWI17 b18
    have pWF18 := Own.below pWF17 b18
    have mI18 := Own.below mI17 b18
    have mF18 := Own.below mF17 b18
    have pHI18 := Own.below pHI17 b18
    have pHF18 := Own.below pHF17 b18
    have oH18 := Own.below oH17 b18
    clear oA17 oW17 oG17 pWI17 pWF17 mI17 mF17 pHI17 pHF17 oH17 k17
    clear b18
    go_wp2_with fail
    go_ret
    exact ⟨rfl, k18⟩
  ·have hd : decide ((-1 : Int) < 0) = true := by decide
   rw [szL_no (by omega)] at hsz
   have HS := Lib.hid hsz
   clear hsz
   go_enter Tryz.func3, Tryz.ntmps3
   go_wp2_with fail
   generalize (w.alloc (.cells #[Value.string who.1, Value.string who.2, Value.slice I is.length ci, Value.slice F fs.length cf, Value.int .i64 nx] 27)) = wA at *
   refine (HS.out wA (hI.below kA) (hF.below kA) kA.size).mono ?_
   rintro e v0 ⟨rfl, b0⟩
   have k0 := kA.trans (b0.mono kA.size)
   have oA0 := Own.below oA b0
   go_wp2_with fail
   go_ret
   exact ⟨rfl, k0⟩
end Go.Proofs.YtfnmlffpnmmcdaaGreatDoor
namespace Go.Proofs.YtfnmlffpnmmcdaaGreatDoor
set_option maxRecDepth 100000
open Go.ChangeShapes Go.WideShapes Go.ChangeAt Go.RowKit
open Go.ChangeMaps (open_string shut_string)
set_option maxRecDepth 100000 in
theorem FnExactBridgeLine_lifted (os : Os) (started : os.Started) (H : Type) (enc : TypeId × Value → H) :
    ReturnsInHanded {} Tryz.checked os 3 .any (fun w args => (Rows.fnExactBridgeLineSpec.pre enc Tryz.prog Tryz.f3 [] false w args ∧ laidMetH Tryz.prog Rows.fnExactBridgeLineRow.laid w) ∧ sizedMet enc Tryz.prog Tryz.f3 (OpenSpec.ofChange Rows.fnExactBridgeLineSpec) false w args) (Rows.fnExactBridgeLineSpec.post enc Tryz.prog Tryz.f3 false true false false) := by
 refine returnsInHanded_of_change_and (C := Tryz.checked) (X := fun w _ => laidMetH Tryz.prog Rows.fnExactBridgeLineRow.laid w) (fun _ _ _ hh h => h.of_heap hh) own started (by kernel_rfl) Tryz.func3
  (ChangeSpec.witness_shaped (enc := enc) (C := Tryz.checked) (os := os) (X := fun w _ => laidMetH Tryz.prog Rows.fnExactBridgeLineRow.laid w) false (World.doorLaid Tryz.prog 400 os) #[.agg #[.string ByteArray.empty, .string ByteArray.empty, .slice none 0 0, .slice none 0 0, .int .i64 0], .string ByteArray.empty] 8 rfl (World.shaped_of_RefB (by kernel_rfl) (by kernel_rfl)) (by kernel_rfl) (by kernel_rfl) (by kernel_rfl) (door_met os _)) ?_
 intro W base args ds gs before hval0 hW _ _ hL _
 have hval : ∀ (j : Nat) t v, Tryz.f3.params[j]? = some t → args[j]? = some v → Value.okWide Tryz.prog W .any base t v := hval0
 have hW' := hW
 obtain ⟨p, q, hA0, hV, rfl, hfz, hnd⟩ := hW
 have hA : DataW.TrodAll enc Tryz.prog W 0 (fun _ => true) true Tryz.f3.params.toList args.toList ds p := hA0
 rw [Tryz.params3] at hA hval
 obtain ⟨v0, vs0, d0, ds0, p0, q0, hargs, rfl, rfl, h0, r0⟩ := trodAll_cons hA
 obtain ⟨v1, vs1, d1, ds1, p1, q1, rfl, rfl, rfl, h1, r1⟩ := trodAll_cons r0
 obtain ⟨rfl, rfl, rfl⟩ := trodAll_nil r1
 obtain rfl : args = #[v0, v1] := by cases args; simp_all
 have hV2 : DataW.TrodVars enc Tryz.prog W (fun _ => true) ["loop.example/feedbridge/impl.escapes", "loop.example/feedbridge/impl.kindWords"] gs q := hV
 obtain ⟨_, _, _, _, z0, _, _, _, _, _, z1, _, rfl, _⟩ := trodVars_two hV2
 have k0 := h0
 have lt0 : ∀ x ∈ p0, x.block < W.heap.size := by obtain ⟨m, hm⟩ := k0; exact DataW.trod_lt m _ _ _ hm
 obtain ⟨who, I, ci, is, F, cf, fs, nx, rfl, ow, ⟨rI, lI, mI, wI⟩, ⟨rF, lF, mF, wF⟩, _⟩ := open_Bridge (hval 0 27 v0 rfl rfl) h0
 have k1 := h1
 have lt1 : ∀ x ∈ p1, x.block < W.heap.size := by obtain ⟨m, hm⟩ := k1; exact DataW.trod_lt m _ _ _ hm
 obtain ⟨s1, rfl, rfl, rfl, w1⟩ := open_string Tryz.underlying9 (hval 1 9 v1 rfl rfl) h1
 clear hA0 hval0
 refine (FnExactBridgeLine_walk who I ci is F cf fs nx s1 W ow rI rF lI mI wI lF mF wF w1 (tabs_of_laid hL).1 (tabs_of_laid hL).2).mono fun e W' ⟨he, bel⟩ => ?_
 subst he
 exact ⟨_, rfl, _, _, _, [], _, q, hW', trodAll_mk1 (shut_bool Tryz.underlying4 _), trodAll_cons_mk (Below.trod laidOut (by kernel_rfl) (of_decide_eq_true (by kernel_rfl)) k0 bel lt0) (trodAll_cons_mk (Below.trod laidOut (by kernel_rfl) (of_decide_eq_true (by kernel_rfl)) k1 bel lt1) trodAll_mk0), Below.trodVars laidOut bel (by kernel_rfl) hV2, bel.frame _, fun h => by cases h⟩
theorem FnExactBridgeLine_row : Rows.FnExactBridgeLineSaid :=
 OpenClaim.holds_of_wide 3 Tryz.f3 rfl rfl rfl rfl rfl rfl rfl ⟨rfl, rfl, rfl, rfl, rfl⟩ rfl rfl rfl rfl rfl (by kernel_rfl) Tryz.func3 (by kernel_rfl)
  (of_decide_eq_true (by kernel_rfl)) (by unfold Func.isWrapper; first | (rw [if_pos (by decide +kernel)]; kernel_rfl) | (rw [if_neg (by decide +kernel)]; exact ⟨rfl, rfl⟩))
  (fun os started H enc _ => FnExactBridgeLine_lifted os started H enc)
theorem FnExactBridgeLine_holds : Rows.FnExactBridgeLineCardSaid :=
 Claim7.holds_tied_plain_at .later [] [.data, .data] true _ false
  FnExactBridgeLine_row (fun _ h => by cases h) (by kernel_rfl) (fun _ h => by cases h) fnExactBridgeLine_row_tie rfl ⟨rfl, rfl⟩ (by kernel_rfl) rfl
  (fun f fn hf hfn => by
   obtain rfl : f = 3 := Option.some.inj ((show Tryz.prog.funcNamed "loop.example/feedbridge/laws.FnExactBridgeLine" = some 3 by kernel_rfl).symm.trans hf) |>.symm
   obtain rfl : fn = Tryz.f3 := (Option.some.inj (Tryz.func3.symm.trans hfn)).symm
   exact ⟨by kernel_rfl, fun j t ht => by
    rw [Tryz.params3] at ht
    have hm : t ∈ [27, 9] := by simpa using Array.mem_of_getElem? ht
    have hall : ([27, 9].all fun u => !Tryz.prog.wantsStandIn u) = true := by kernel_rfl
    exact (show Tryz.prog.wantsStandIn t = false by simpa using List.all_eq_true.1 hall t hm)⟩)
  (by kernel_rfl)
#print axioms FnExactBridgeLine_holds
end Go.Proofs.YtfnmlffpnmmcdaaGreatDoor
