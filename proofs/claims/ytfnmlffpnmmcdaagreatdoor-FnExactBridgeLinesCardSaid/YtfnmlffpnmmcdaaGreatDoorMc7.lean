/- Parts of the proof, merged: BlB FtA BlC. -/
import Derived.Test.YtfnmlffpnmmcdaaGreatDoorMc6
import Derived.Test.YtfnmlffpnmmcdaaGreatDoorMc5
import Derived.Deep.Cut
import Derived.Test.YtfnmlffpnmmcdaaGreatDoorMc4
import Derived.Test.YtfnmlffpnmmcdaaGreatDoorMc1
import Derived.Test.YtfnmlffpnmmcdaaGreatDoorMc2
namespace Go.Proofs.YtfnmlffpnmmcdaaGreatDoor
set_option maxRecDepth 100000
open Go.RowKit
set_option maxHeartbeats 3200000 in
theorem putItem_any (text : ByteArray) (who : ElHandle) (is : List ElItem) (fs : List ElHandle) (nx : Int) (I : Option Addr) (ci : Nat) (F : Option Addr) (cf base : Nat) (w : World) (hI : OwnE 4 encItem 69 w base I ci is) (hF : OwnE 2 encHandle 29 w base F cf fs) (hb : base ≤ w.heap.size) (hv : brB who is fs nx = true) (hT : KwTab w) (hs : text.size ≤ maxLen) (hE : EsTab w) :
    Calls Tryz.prog 49 #[.agg #[Value.string who.1, Value.string who.2, Value.slice I is.length ci, Value.slice F fs.length cf, Value.int .i64 nx], .string text] w (OutBl base (putOf (who, is, fs, nx) text) w) := by
 have zw : (w.alloc (.cells #[Value.string who.1, Value.string who.2, Value.slice I is.length ci, Value.slice F fs.length cf, Value.int .i64 nx] 33)).heap.size = w.heap.size + 1 := by simp
 have hbA : Below w.heap.size w ((w.alloc (.cells #[Value.string who.1, Value.string who.2, Value.slice I is.length ci, Value.slice F fs.length cf, Value.int .i64 nx] 33)).alloc (.cells #[Value.string { data := #[] }, Value.string { data := #[] }, Value.slice none 0 0, Value.slice none 0 0, Value.int .i64 0] 33)) := ((Below.refl _ _).alloc (Nat.le_refl _) _).alloc (by simp) _
 have zA : ((w.alloc (.cells #[Value.string who.1, Value.string who.2, Value.slice I is.length ci, Value.slice F fs.length cf, Value.int .i64 nx] 33)).alloc (.cells #[Value.string { data := #[] }, Value.string { data := #[] }, Value.slice none 0 0, Value.slice none 0 0, Value.int .i64 0] 33)).heap.size = w.heap.size + 2 := by simp
 have oB : Own ((w.alloc (.cells #[Value.string who.1, Value.string who.2, Value.slice I is.length ci, Value.slice F fs.length cf, Value.int .i64 nx] 33)).alloc (.cells #[Value.string { data := #[] }, Value.string { data := #[] }, Value.slice none 0 0, Value.slice none 0 0, Value.int .i64 0] 33)) w.heap.size 33 5 (some ⟨w.heap.size, 0, none⟩) 1 1 (bxC who I is.length ci F fs.length cf nx) := Own.below (Own.lit w 33 5 1 #[Value.string who.1, Value.string who.2, Value.slice I is.length ci, Value.slice F fs.length cf, Value.int .i64 nx] (bxC who I is.length ci F fs.length cf nx) (by simp only [maxLen]; omega) rfl) ((Below.refl _ _).alloc (Nat.le_refl _) _)
 have oR : Own ((w.alloc (.cells #[Value.string who.1, Value.string who.2, Value.slice I is.length ci, Value.slice F fs.length cf, Value.int .i64 nx] 33)).alloc (.cells #[Value.string { data := #[] }, Value.string { data := #[] }, Value.slice none 0 0, Value.slice none 0 0, Value.int .i64 0] 33)) (w.heap.size + 1) 33 5 (some ⟨w.heap.size + 1, 0, none⟩) 1 1 zBr' := by
  have := Own.lit (w.alloc (.cells #[Value.string who.1, Value.string who.2, Value.slice I is.length ci, Value.slice F fs.length cf, Value.int .i64 nx] 33)) 33 5 1 #[Value.string { data := #[] }, Value.string { data := #[] }, Value.slice none 0 0, Value.slice none 0 0, Value.int .i64 0] zBr' (by simp only [maxLen]; omega) rfl
  rw [zw] at this
  exact this
 clear zw
 have HB := Lib.hid hv
 obtain ⟨hw, hi, hf, hn⟩ := brB_of hv
 have hi8 := fd_len hi
 have hf10 := (Fv.of hf).1
 have HI := Lib.hid hi
 have HF := Lib.hid hf
 clear hw hi hf hn hv
 have HT := Lib.hid hT
 clear hT
 have hIA := Own.below hI hbA
 have hNI : ∀ b, blk I = some b → b ≠ w.heap.size + 1 := fun b hb => by have := (Own.lt hI hb).2; omega
 have hFA := Own.below hF hbA
 have hNF : ∀ b, blk F = some b → b ≠ w.heap.size + 1 := fun b hb => by have := (Own.lt hF hb).2; omega
 have HE := Lib.hid (hE.below hbA (Nat.le_refl _))
 clear hE
 go_enter Tryz.func49, Tryz.ntmps49
 go_wp2_with fail
 generalize ((w.alloc (.cells #[Value.string who.1, Value.string who.2, Value.slice I is.length ci, Value.slice F fs.length cf, Value.int .i64 nx] 33)).alloc (.cells #[Value.string { data := #[] }, Value.string { data := #[] }, Value.slice none 0 0, Value.slice none 0 0, Value.int .i64 0] 33)) = wA at *
 refine (implReadItem_any text wA hs HE.out).mono ?_
 rintro e w1 ⟨rfl, b1⟩
 have k1 := hbA.trans (b1.mono hbA.size)
 have hI1 := Own.below hIA b1
 have hF1 := Own.below hFA b1
 have oB1 := Own.below oB b1
 have oR1 := Own.below oR b1
 have z1 : w.heap.size + 1 < w1.heap.size := by have := b1.size; omega
 have b12 : Below w1.heap.size w1 (w1.alloc (.cells #[Value.string (riOf text).1, Value.string (riOf text).2.1, Value.string (riOf text).2.2.1, Value.int .i64 (riOf text).2.2.2] 69)) := (Below.refl _ _).alloc (Nat.le_refl _) _
 have k2 := k1.trans (b12.mono k1.size)
 have oB2 := Own.below oB1 b12
 have oR2 := Own.below oR1 b12
 have hI2 := Own.below hI1 b12
 have hF2 := Own.below hF1 b12
 have x0 : (w1.alloc (.cells #[Value.string (riOf text).1, Value.string (riOf text).2.1, Value.string (riOf text).2.2.1, Value.int .i64 (riOf text).2.2.2] 69)).cell? ⟨w1.heap.size, 0, none⟩ = some (Value.string (riOf text).1) := by rw [World.cell?_alloc_at _ _ _ _ rfl]; rfl
 have x1 : (w1.alloc (.cells #[Value.string (riOf text).1, Value.string (riOf text).2.1, Value.string (riOf text).2.2.1, Value.int .i64 (riOf text).2.2.2] 69)).cell? ⟨w1.heap.size, 1, none⟩ = some (Value.string (riOf text).2.1) := by rw [World.cell?_alloc_at _ _ _ _ rfl]; rfl
 have x2 : (w1.alloc (.cells #[Value.string (riOf text).1, Value.string (riOf text).2.1, Value.string (riOf text).2.2.1, Value.int .i64 (riOf text).2.2.2] 69)).cell? ⟨w1.heap.size, 2, none⟩ = some (Value.string (riOf text).2.2.1) := by rw [World.cell?_alloc_at _ _ _ _ rfl]; rfl
 have x3 : (w1.alloc (.cells #[Value.string (riOf text).1, Value.string (riOf text).2.1, Value.string (riOf text).2.2.1, Value.int .i64 (riOf text).2.2.2] 69)).cell? ⟨w1.heap.size, 3, none⟩ = some (Value.int .i64 (riOf text).2.2.2) := by rw [World.cell?_alloc_at _ _ _ _ rfl]; rfl
 have zX : w1.heap.size < (w1.alloc (.cells #[Value.string (riOf text).1, Value.string (riOf text).2.1, Value.string (riOf text).2.2.1, Value.int .i64 (riOf text).2.2.2] 69)).heap.size := by simp
 cases ho : riOk text
 ·have HQ : Hid (putOf (who, is, fs, nx) text = ((who, is, fs, nx), wNo)) := Lib.hid (by unfold putOf; rw [if_neg (by rw [ho]; simp)])
  have a0 := (show _ = some (Value.string who.1) from oB2.cell rfl (j := 0) (by omega))
  have a1 := (show _ = some (Value.string who.2) from oB2.cell rfl (j := 1) (by omega))
  have a2 := (show _ = some (Value.slice I is.length ci) from oB2.cell rfl (j := 2) (by omega))
  have a3 := (show _ = some (Value.slice F fs.length cf) from oB2.cell rfl (j := 3) (by omega))
  have a4 := (show _ = some (Value.int .i64 nx) from oB2.cell rfl (j := 4) (by omega))
  have r0 := (show _ = some (Value.string { data := #[] }) from oR2.cell rfl (j := 0) (by omega))
  have rf0 := oR2.frozen rfl 0
  have r1 := (show _ = some (Value.string { data := #[] }) from oR2.cell rfl (j := 1) (by omega))
  have rf1 := oR2.frozen rfl 1
  have r2 := (show _ = some (Value.slice none 0 0) from oR2.cell rfl (j := 2) (by omega))
  have rf2 := oR2.frozen rfl 2
  have r3 := (show _ = some (Value.slice none 0 0) from oR2.cell rfl (j := 3) (by omega))
  have rf3 := oR2.frozen rfl 3
  have r4 := (show _ = some (Value.int .i64 0) from oR2.cell rfl (j := 4) (by omega))
  have rf4 := oR2.frozen rfl 4
  clear ho
  go_upto_region 3 with fail
  generalize (w1.alloc (.cells #[Value.string (riOf text).1, Value.string (riOf text).2.1, Value.string (riOf text).2.2.1, Value.int .i64 (riOf text).2.2.2] 69)) = w2 at *
  go_wp2_with fail
  refine bodyPost_ret (v := .tuple #[.agg #[Value.string who.1, Value.string who.2, Value.slice I is.length ci, Value.slice F fs.length cf, Value.int .i64 nx], .string { data := #[110, 111] }]) ?_ rfl ?_
  ·simp [results, Tryz.results49, go_sem, r0, r1, r2, r3, r4]
  ·rw [HQ.out]
   exact ⟨I, ci, F, cf, rfl, (own_setN (own_setN (own_setN (own_setN (own_setN hI2 (w.heap.size + 1) 0 (Value.string who.1) hNI) (w.heap.size + 1) 1 (Value.string who.2) hNI) (w.heap.size + 1) 2 (Value.slice I is.length ci) hNI) (w.heap.size + 1) 3 (Value.slice F fs.length cf) hNI) (w.heap.size + 1) 4 (Value.int .i64 nx) hNI), (own_setN (own_setN (own_setN (own_setN (own_setN hF2 (w.heap.size + 1) 0 (Value.string who.1) hNF) (w.heap.size + 1) 1 (Value.string who.2) hNF) (w.heap.size + 1) 2 (Value.slice I is.length ci) hNF) (w.heap.size + 1) 3 (Value.slice F fs.length cf) hNF) (w.heap.size + 1) 4 (Value.int .i64 nx) hNF), (((((k2.setCell (p := ⟨w.heap.size + 1, 0, none⟩) (by show w.heap.size ≤ w.heap.size + 1; omega) (Value.string who.1)).setCell (p := ⟨w.heap.size + 1, 1, none⟩) (by show w.heap.size ≤ w.heap.size + 1; omega) (Value.string who.2)).setCell (p := ⟨w.heap.size + 1, 2, none⟩) (by show w.heap.size ≤ w.heap.size + 1; omega) (Value.slice I is.length ci)).setCell (p := ⟨w.heap.size + 1, 3, none⟩) (by show w.heap.size ≤ w.heap.size + 1; omega) (Value.slice F fs.length cf)).setCell (p := ⟨w.heap.size + 1, 4, none⟩) (by show w.heap.size ≤ w.heap.size + 1; omega) (Value.int .i64 nx))⟩
 ·have hX := fd_one (riOf_valid ho)
  have HPQ : Hid (putOf (who, is, fs, nx) text = if (mfOf is [riOf text]).length = 0 then ((who, is, fs, nx), wNo) else tellOf (who, is, fs, nx) (mfOf is [riOf text])) := Lib.hid (by unfold putOf; rw [if_pos ho])
  clear ho
  generalize riOf text = x at *
  have a0 := (show _ = some (Value.string who.1) from oB2.cell rfl (j := 0) (by omega))
  have a1 := (show _ = some (Value.string who.2) from oB2.cell rfl (j := 1) (by omega))
  have a2 := (show _ = some (Value.slice I is.length ci) from oB2.cell rfl (j := 2) (by omega))
  have a3 := (show _ = some (Value.slice F fs.length cf) from oB2.cell rfl (j := 3) (by omega))
  have a4 := (show _ = some (Value.int .i64 nx) from oB2.cell rfl (j := 4) (by omega))
  have zw2 : (w1.alloc (.cells #[Value.string x.1, Value.string x.2.1, Value.string x.2.2.1, Value.int .i64 x.2.2.2] 69)).heap.size = w1.heap.size + 1 := by simp
  have oX : OwnE 4 encItem 69 ((w1.alloc (.cells #[Value.string x.1, Value.string x.2.1, Value.string x.2.2.1, Value.int .i64 x.2.2.2] 69)).alloc (.cells #[Value.string x.1, Value.string x.2.1, Value.string x.2.2.1, Value.int .i64 x.2.2.2] 69)) (w1.heap.size + 1) (some ⟨w1.heap.size + 1, 0, none⟩) 1 [x] := by
   have := Own.lit (w1.alloc (.cells #[Value.string x.1, Value.string x.2.1, Value.string x.2.2.1, Value.int .i64 x.2.2.2] 69)) 69 4 1 #[Value.string x.1, Value.string x.2.1, Value.string x.2.2.1, Value.int .i64 x.2.2.2] (cE 4 encItem [x]) (by simp only [maxLen]; omega) rfl
   rw [zw2] at this
   exact this
  have b23 : Below (w1.alloc (.cells #[Value.string x.1, Value.string x.2.1, Value.string x.2.2.1, Value.int .i64 x.2.2.2] 69)).heap.size (w1.alloc (.cells #[Value.string x.1, Value.string x.2.1, Value.string x.2.2.1, Value.int .i64 x.2.2.2] 69)) ((w1.alloc (.cells #[Value.string x.1, Value.string x.2.1, Value.string x.2.2.1, Value.int .i64 x.2.2.2] 69)).alloc (.cells #[Value.string x.1, Value.string x.2.1, Value.string x.2.2.1, Value.int .i64 x.2.2.2] 69)) := (Below.refl _ _).alloc (Nat.le_refl _) _
  have k3 := k2.trans (b23.mono k2.size)
  have oB3 := Own.below oB2 b23
  have oR3 := Own.below oR2 b23
  have hI3 := Own.below hI2 b23
  have hF3 := Own.below hF2 b23
  go_wp2_with fail
  generalize ((w1.alloc (.cells #[Value.string x.1, Value.string x.2.1, Value.string x.2.2.1, Value.int .i64 x.2.2.2] 69)).alloc (.cells #[Value.string x.1, Value.string x.2.1, Value.string x.2.2.1, Value.int .i64 x.2.2.2] 69)) = w3 at *
  refine (implMergeFeeds_any I ci (some ⟨w1.heap.size + 1, 0, none⟩) 1 w3.heap.size is [x] w3 (OwnE.rd hI3) (OwnE.rd oX) (Nat.le_refl _) (OwnE.capLe hI3) (Nat.le_refl _) HI.out hX).mono ?_
  rintro e w4 ⟨R, cR, rfl, oM, b4⟩
  have k4 := k3.trans (b4.mono k3.size)
  have hM := mfOf_fd HI.out hX
  generalize mfOf is [x] = ms at *
  have oB4 := Own.below oB3 b4
  have oR4 := Own.below oR3 b4
  have hI4 := Own.below hI3 b4
  have hF4 := Own.below hF3 b4
  have oM4 := Own.more (base' := base) oM (Nat.le_trans hb k3.size)
  clear a0 a1 a2 a3 a4
  have a0 := (show _ = some (Value.string who.1) from oB4.cell rfl (j := 0) (by omega))
  have a1 := (show _ = some (Value.string who.2) from oB4.cell rfl (j := 1) (by omega))
  have a2 := (show _ = some (Value.slice I is.length ci) from oB4.cell rfl (j := 2) (by omega))
  have a3 := (show _ = some (Value.slice F fs.length cf) from oB4.cell rfl (j := 3) (by omega))
  have a4 := (show _ = some (Value.int .i64 nx) from oB4.cell rfl (j := 4) (by omega))
  by_cases hz : ms.length = 0
  ·have e0 : (((ms.length : Nat) : Int) == 0) = true := by rw [hz]; rfl
   have HQ : Hid (putOf (who, is, fs, nx) text = ((who, is, fs, nx), wNo)) := Lib.hid (by rw [HPQ.out, if_pos hz])
   clear hz
   have r0 := (show _ = some (Value.string { data := #[] }) from oR4.cell rfl (j := 0) (by omega))
   have rf0 := oR4.frozen rfl 0
   have r1 := (show _ = some (Value.string { data := #[] }) from oR4.cell rfl (j := 1) (by omega))
   have rf1 := oR4.frozen rfl 1
   have r2 := (show _ = some (Value.slice none 0 0) from oR4.cell rfl (j := 2) (by omega))
   have rf2 := oR4.frozen rfl 2
   have r3 := (show _ = some (Value.slice none 0 0) from oR4.cell rfl (j := 3) (by omega))
   have rf3 := oR4.frozen rfl 3
   have r4 := (show _ = some (Value.int .i64 0) from oR4.cell rfl (j := 4) (by omega))
   have rf4 := oR4.frozen rfl 4
   go_wp2_with fail
   refine bodyPost_ret (v := .tuple #[.agg #[Value.string who.1, Value.string who.2, Value.slice I is.length ci, Value.slice F fs.length cf, Value.int .i64 nx], .string { data := #[110, 111] }]) ?_ rfl ?_
   ·simp [results, Tryz.results49, go_sem, r0, r1, r2, r3, r4]
   ·rw [HQ.out]
    exact ⟨I, ci, F, cf, rfl, (own_setN (own_setN (own_setN (own_setN (own_setN hI4 (w.heap.size + 1) 0 (Value.string who.1) hNI) (w.heap.size + 1) 1 (Value.string who.2) hNI) (w.heap.size + 1) 2 (Value.slice I is.length ci) hNI) (w.heap.size + 1) 3 (Value.slice F fs.length cf) hNI) (w.heap.size + 1) 4 (Value.int .i64 nx) hNI), (own_setN (own_setN (own_setN (own_setN (own_setN hF4 (w.heap.size + 1) 0 (Value.string who.1) hNF) (w.heap.size + 1) 1 (Value.string who.2) hNF) (w.heap.size + 1) 2 (Value.slice I is.length ci) hNF) (w.heap.size + 1) 3 (Value.slice F fs.length cf) hNF) (w.heap.size + 1) 4 (Value.int .i64 nx) hNF), (((((k4.setCell (p := ⟨w.heap.size + 1, 0, none⟩) (by show w.heap.size ≤ w.heap.size + 1; omega) (Value.string who.1)).setCell (p := ⟨w.heap.size + 1, 1, none⟩) (by show w.heap.size ≤ w.heap.size + 1; omega) (Value.string who.2)).setCell (p := ⟨w.heap.size + 1, 2, none⟩) (by show w.heap.size ≤ w.heap.size + 1; omega) (Value.slice I is.length ci)).setCell (p := ⟨w.heap.size + 1, 3, none⟩) (by show w.heap.size ≤ w.heap.size + 1; omega) (Value.slice F fs.length cf)).setCell (p := ⟨w.heap.size + 1, 4, none⟩) (by show w.heap.size ≤ w.heap.size + 1; omega) (Value.int .i64 nx))⟩
  ·have e0 : (((ms.length : Nat) : Int) == 0) = false := by rw [beq_eq_false_iff_ne]; omega
   have HQ : Hid (putOf (who, is, fs, nx) text = tellOf (who, is, fs, nx) ms) := Lib.hid (by rw [HPQ.out, if_neg hz])
   clear hz
   go_wp2_with fail
   refine (tellItems_any ms R cR who is fs nx I ci F cf base w4 hI4 hF4 (Nat.le_trans hb k4.size) HB.out (HT.out.below k4 (Nat.le_refl _)) oM4 hM).mono ?_
   rintro e w5 ⟨I', ci', F', cf', rfl, o1, o2, b5⟩
   have k5 := k4.trans (b5.mono k4.size)
   have oR5 := Own.below oR4 b5
   have hNI' : ∀ b, blk I' = some b → b ≠ w.heap.size + 1 := fun b hb e => own_ne o1 oR5 (by decide) b hb (by rw [e]; rfl)
   have hNF' : ∀ b, blk F' = some b → b ≠ w.heap.size + 1 := fun b hb e => own_ne o2 oR5 (by decide) b hb (by rw [e]; rfl)
   have r0 := (show _ = some (Value.string { data := #[] }) from oR5.cell rfl (j := 0) (by omega))
   have rf0 := oR5.frozen rfl 0
   have r1 := (show _ = some (Value.string { data := #[] }) from oR5.cell rfl (j := 1) (by omega))
   have rf1 := oR5.frozen rfl 1
   have r2 := (show _ = some (Value.slice none 0 0) from oR5.cell rfl (j := 2) (by omega))
   have rf2 := oR5.frozen rfl 2
   have r3 := (show _ = some (Value.slice none 0 0) from oR5.cell rfl (j := 3) (by omega))
   have rf3 := oR5.frozen rfl 3
   have r4 := (show _ = some (Value.int .i64 0) from oR5.cell rfl (j := 4) (by omega))
   have rf4 := oR5.frozen rfl 4
   generalize tellOf (who, is, fs, nx) ms = res at *
   go_wp2_with fail
   refine bodyPost_ret (v := .tuple #[.agg #[Value.string res.1.1.1, Value.string res.1.1.2, Value.slice I' res.1.2.1.length ci', Value.slice F' res.1.2.2.1.length cf', Value.int .i64 res.1.2.2.2], .string res.2]) ?_ rfl ?_
   ·simp [results, Tryz.results49, go_sem, r0, r1, r2, r3, r4]
   ·rw [HQ.out]
    exact ⟨I', ci', F', cf', rfl, (own_setN (own_setN (own_setN (own_setN (own_setN o1 (w.heap.size + 1) 0 (Value.string res.1.1.1) hNI') (w.heap.size + 1) 1 (Value.string res.1.1.2) hNI') (w.heap.size + 1) 2 (Value.slice I' res.1.2.1.length ci') hNI') (w.heap.size + 1) 3 (Value.slice F' res.1.2.2.1.length cf') hNI') (w.heap.size + 1) 4 (Value.int .i64 res.1.2.2.2) hNI'), (own_setN (own_setN (own_setN (own_setN (own_setN o2 (w.heap.size + 1) 0 (Value.string res.1.1.1) hNF') (w.heap.size + 1) 1 (Value.string res.1.1.2) hNF') (w.heap.size + 1) 2 (Value.slice I' res.1.2.1.length ci') hNF') (w.heap.size + 1) 3 (Value.slice F' res.1.2.2.1.length cf') hNF') (w.heap.size + 1) 4 (Value.int .i64 res.1.2.2.2) hNF'), (((((k5.setCell (p := ⟨w.heap.size + 1, 0, none⟩) (by show w.heap.size ≤ w.heap.size + 1; omega) (Value.string res.1.1.1)).setCell (p := ⟨w.heap.size + 1, 1, none⟩) (by show w.heap.size ≤ w.heap.size + 1; omega) (Value.string res.1.1.2)).setCell (p := ⟨w.heap.size + 1, 2, none⟩) (by show w.heap.size ≤ w.heap.size + 1; omega) (Value.slice I' res.1.2.1.length ci')).setCell (p := ⟨w.heap.size + 1, 3, none⟩) (by show w.heap.size ≤ w.heap.size + 1; omega) (Value.slice F' res.1.2.2.1.length cf')).setCell (p := ⟨w.heap.size + 1, 4, none⟩) (by show w.heap.size ≤ w.heap.size + 1; omega) (Value.int .i64 res.1.2.2.2))⟩
def aggS (base : Nat) (res : ElBr × ByteArray) : Spec := fun v w => ∃ (I' : Option Addr) (ci' : Nat) (F' : Option Addr) (cf' : Nat), v = .agg #[Value.string res.1.1.1, Value.string res.1.1.2, Value.slice I' res.1.2.1.length ci', Value.slice F' res.1.2.2.1.length cf', Value.int .i64 res.1.2.2.2] ∧ OwnE 4 encItem 69 w base I' ci' res.1.2.1 ∧ OwnE 2 encHandle 29 w base F' cf' res.1.2.2.1
theorem aggS_stb (base : Nat) (res : ElBr × ByteArray) : StbB (aggS base res) := fun _ _ _ h ⟨A, c, A', c', h1, h2, h3⟩ => ⟨A, c, A', c', h1, Own.below h2 h, Own.below h3 h⟩
def tupS (base : Nat) (res : ElBr × ByteArray) : Spec := fun v w => ∃ u, v = .tuple #[u, .string res.2] ∧ aggS base res u w
theorem tupS_stb (base : Nat) (res : ElBr × ByteArray) : StbB (tupS base res) := fun _ _ _ h ⟨u, h1, h2⟩ => ⟨u, h1, aggS_stb _ _ _ _ _ h h2⟩
set_option maxHeartbeats 3200000 in
theorem takeItem_any (key : ByteArray) (who : ElHandle) (is : List ElItem) (fs : List ElHandle) (nx : Int) (I : Option Addr) (ci : Nat) (F : Option Addr) (cf base : Nat) (w : World) (hI : OwnE 4 encItem 69 w base I ci is) (hF : OwnE 2 encHandle 29 w base F cf fs) (hb : base ≤ w.heap.size) (hv : brB who is fs nx = true) (hT : KwTab w) :
    Calls Tryz.prog 50 #[.agg #[Value.string who.1, Value.string who.2, Value.slice I is.length ci, Value.slice F fs.length cf, Value.int .i64 nx], .string key] w (OutBl base (takeOf (who, is, fs, nx) key) w) := by
 have zw : (w.alloc (.cells #[Value.string who.1, Value.string who.2, Value.slice I is.length ci, Value.slice F fs.length cf, Value.int .i64 nx] 33)).heap.size = w.heap.size + 1 := by simp
 have hbA : Below w.heap.size w ((w.alloc (.cells #[Value.string who.1, Value.string who.2, Value.slice I is.length ci, Value.slice F fs.length cf, Value.int .i64 nx] 33)).alloc (.cells #[Value.string { data := #[] }, Value.string { data := #[] }, Value.slice none 0 0, Value.slice none 0 0, Value.int .i64 0] 33)) := ((Below.refl _ _).alloc (Nat.le_refl _) _).alloc (by simp) _
 have zA : ((w.alloc (.cells #[Value.string who.1, Value.string who.2, Value.slice I is.length ci, Value.slice F fs.length cf, Value.int .i64 nx] 33)).alloc (.cells #[Value.string { data := #[] }, Value.string { data := #[] }, Value.slice none 0 0, Value.slice none 0 0, Value.int .i64 0] 33)).heap.size = w.heap.size + 2 := by simp
 have oB : Own ((w.alloc (.cells #[Value.string who.1, Value.string who.2, Value.slice I is.length ci, Value.slice F fs.length cf, Value.int .i64 nx] 33)).alloc (.cells #[Value.string { data := #[] }, Value.string { data := #[] }, Value.slice none 0 0, Value.slice none 0 0, Value.int .i64 0] 33)) w.heap.size 33 5 (some ⟨w.heap.size, 0, none⟩) 1 1 (bxC who I is.length ci F fs.length cf nx) := Own.below (Own.lit w 33 5 1 #[Value.string who.1, Value.string who.2, Value.slice I is.length ci, Value.slice F fs.length cf, Value.int .i64 nx] (bxC who I is.length ci F fs.length cf nx) (by simp only [maxLen]; omega) rfl) ((Below.refl _ _).alloc (Nat.le_refl _) _)
 have oR : Own ((w.alloc (.cells #[Value.string who.1, Value.string who.2, Value.slice I is.length ci, Value.slice F fs.length cf, Value.int .i64 nx] 33)).alloc (.cells #[Value.string { data := #[] }, Value.string { data := #[] }, Value.slice none 0 0, Value.slice none 0 0, Value.int .i64 0] 33)) (w.heap.size + 1) 33 5 (some ⟨w.heap.size + 1, 0, none⟩) 1 1 zBr' := by
  have := Own.lit (w.alloc (.cells #[Value.string who.1, Value.string who.2, Value.slice I is.length ci, Value.slice F fs.length cf, Value.int .i64 nx] 33)) 33 5 1 #[Value.string { data := #[] }, Value.string { data := #[] }, Value.slice none 0 0, Value.slice none 0 0, Value.int .i64 0] zBr' (by simp only [maxLen]; omega) rfl
  rw [zw] at this
  exact this
 clear zw
 have HB := Lib.hid hv
 obtain ⟨hw, hi, hf, hn⟩ := brB_of hv
 have hi8 := fd_len hi
 have hf10 := (Fv.of hf).1
 have HI := Lib.hid hi
 have HF := Lib.hid hf
 clear hw hi hf hn hv
 have HT := Lib.hid hT
 clear hT
 have hIA := Own.below hI hbA
 have hNI : ∀ b, blk I = some b → b ≠ w.heap.size + 1 := fun b hb => by have := (Own.lt hI hb).2; omega
 have hFA := Own.below hF hbA
 have hNF : ∀ b, blk F = some b → b ≠ w.heap.size + 1 := fun b hb => by have := (Own.lt hF hb).2; omega
 have a0 := (show _ = some (Value.string who.1) from oB.cell rfl (j := 0) (by omega))
 have a1 := (show _ = some (Value.string who.2) from oB.cell rfl (j := 1) (by omega))
 have a2 := (show _ = some (Value.slice I is.length ci) from oB.cell rfl (j := 2) (by omega))
 have a3 := (show _ = some (Value.slice F fs.length cf) from oB.cell rfl (j := 3) (by omega))
 have a4 := (show _ = some (Value.int .i64 nx) from oB.cell rfl (j := 4) (by omega))
 go_enter Tryz.func50, Tryz.ntmps50
 go_wp2_with fail
 generalize ((w.alloc (.cells #[Value.string who.1, Value.string who.2, Value.slice I is.length ci, Value.slice F fs.length cf, Value.int .i64 nx] 33)).alloc (.cells #[Value.string { data := #[] }, Value.string { data := #[] }, Value.slice none 0 0, Value.slice none 0 0, Value.int .i64 0] 33)) = wA at *
 refine (itemNumber_any I ci wA.heap.size is key wA (OwnE.rd hIA) (Nat.le_refl _) (by omega)).mono ?_
 rintro e w1 ⟨rfl, b1⟩
 have k1 := hbA.trans (b1.mono hbA.size)
 have hI1 := Own.below hIA b1
 have hF1 := Own.below hFA b1
 have oB1 := Own.below oB b1
 have oR1 := Own.below oR b1
 have z1 : w.heap.size + 1 < w1.heap.size := by have := b1.size; omega
 clear a0 a1 a2 a3 a4
 cases ho : hasK is key
 ·have hx := ix_neg ho
  rw [hx]
  have HQ : Hid (takeOf (who, is, fs, nx) key = ((who, is, fs, nx), wNo)) := Lib.hid (by unfold takeOf; rw [if_neg (by rw [ho]; simp)])
  clear ho hx
  have a0 := (show _ = some (Value.string who.1) from oB1.cell rfl (j := 0) (by omega))
  have a1 := (show _ = some (Value.string who.2) from oB1.cell rfl (j := 1) (by omega))
  have a2 := (show _ = some (Value.slice I is.length ci) from oB1.cell rfl (j := 2) (by omega))
  have a3 := (show _ = some (Value.slice F fs.length cf) from oB1.cell rfl (j := 3) (by omega))
  have a4 := (show _ = some (Value.int .i64 nx) from oB1.cell rfl (j := 4) (by omega))
  have r0 := (show _ = some (Value.string { data := #[] }) from oR1.cell rfl (j := 0) (by omega))
  have rf0 := oR1.frozen rfl 0
  have r1 := (show _ = some (Value.string { data := #[] }) from oR1.cell rfl (j := 1) (by omega))
  have rf1 := oR1.frozen rfl 1
  have r2 := (show _ = some (Value.slice none 0 0) from oR1.cell rfl (j := 2) (by omega))
  have rf2 := oR1.frozen rfl 2
  have r3 := (show _ = some (Value.slice none 0 0) from oR1.cell rfl (j := 3) (by omega))
  have rf3 := oR1.frozen rfl 3
  have r4 := (show _ = some (Value.int .i64 0) from oR1.cell rfl (j := 4) (by omega))
  have rf4 := oR1.frozen rfl 4
  go_wp2_with fail
  refine bodyPost_ret (v := .tuple #[.agg #[Value.string who.1, Value.string who.2, Value.slice I is.length ci, Value.slice F fs.length cf, Value.int .i64 nx], .string { data := #[110, 111] }]) ?_ rfl ?_
  ·simp [results, Tryz.results50, go_sem, r0, r1, r2, r3, r4]
  ·rw [HQ.out]
   exact ⟨I, ci, F, cf, rfl, (own_setN (own_setN (own_setN (own_setN (own_setN hI1 (w.heap.size + 1) 0 (Value.string who.1) hNI) (w.heap.size + 1) 1 (Value.string who.2) hNI) (w.heap.size + 1) 2 (Value.slice I is.length ci) hNI) (w.heap.size + 1) 3 (Value.slice F fs.length cf) hNI) (w.heap.size + 1) 4 (Value.int .i64 nx) hNI), (own_setN (own_setN (own_setN (own_setN (own_setN hF1 (w.heap.size + 1) 0 (Value.string who.1) hNF) (w.heap.size + 1) 1 (Value.string who.2) hNF) (w.heap.size + 1) 2 (Value.slice I is.length ci) hNF) (w.heap.size + 1) 3 (Value.slice F fs.length cf) hNF) (w.heap.size + 1) 4 (Value.int .i64 nx) hNF), (((((k1.setCell (p := ⟨w.heap.size + 1, 0, none⟩) (by show w.heap.size ≤ w.heap.size + 1; omega) (Value.string who.1)).setCell (p := ⟨w.heap.size + 1, 1, none⟩) (by show w.heap.size ≤ w.heap.size + 1; omega) (Value.string who.2)).setCell (p := ⟨w.heap.size + 1, 2, none⟩) (by show w.heap.size ≤ w.heap.size + 1; omega) (Value.slice I is.length ci)).setCell (p := ⟨w.heap.size + 1, 3, none⟩) (by show w.heap.size ≤ w.heap.size + 1; omega) (Value.slice F fs.length cf)).setCell (p := ⟨w.heap.size + 1, 4, none⟩) (by show w.heap.size ≤ w.heap.size + 1; omega) (Value.int .i64 nx))⟩
 ·obtain ⟨kn, hk, hx, _, _⟩ := ix_pos ho
  rw [hx]
  have hg := goOf_at HI.out hx
  have gj : decide ((kn : Int) < 0) = false := decide_eq_false (by omega)
  have HQ : Hid (takeOf (who, is, fs, nx) key = tellOf (who, is, fs, nx) (goOf is key)) := Lib.hid (by unfold takeOf; rw [if_pos ho])
  have hM := goOf_fd (key := key) HI.out
  clear ho hx
  have HWO := fun (z : World) (kz : Below w1.heap.size w1 z) => withoutAtItem_any I ci w1.heap.size is kn z ((OwnE.rd hI1).below kz) kz.size (Own.shp hI1) hk (by omega)
  rw [← hg.2] at HWO
  have HWO := Lib.hid HWO
  clear hg
  generalize goOf is key = ms at *
  have a0 := (show _ = some (Value.string who.1) from oB1.cell rfl (j := 0) (by omega))
  have a1 := (show _ = some (Value.string who.2) from oB1.cell rfl (j := 1) (by omega))
  have a2 := (show _ = some (Value.slice I is.length ci) from oB1.cell rfl (j := 2) (by omega))
  have a3 := (show _ = some (Value.slice F fs.length cf) from oB1.cell rfl (j := 3) (by omega))
  have a4 := (show _ = some (Value.int .i64 nx) from oB1.cell rfl (j := 4) (by omega))
  go_wp2_with fail
  have hres : ∃ res, res = tellOf (who, is, fs, nx) ms := ⟨_, rfl⟩
  obtain ⟨res, hres⟩ := hres
  have HRES := Lib.hid hres
  clear hres
  refine wp_region_makes 8 [(isS (.agg #[Value.string who.1, Value.string who.2, Value.slice I is.length ci, Value.slice F fs.length cf, Value.int .i64 nx])), (isS (.pointer (some ⟨w.heap.size, 2, none⟩))), (isS (.slice I is.length ci)), (isS (.int .i64 (kn : Int))), (ownS base 69 4 ms.length (cE 4 encItem ms)), (tupS base res), (aggS base res), (isS (.string res.2))] [0, 0, 0, 0, 0, 0, 0, 0] (by kernel_rfl) (by kernel_rfl) (by rfl) (by rfl) (by rfl) ?_ ?_ ?_
  ·repeat (first | exact stbB_nil | refine stbB_cons (by first | exact isS_stb _ | exact ownS_stb _ _ _ _ _ | exact tupS_stb _ _ | exact aggS_stb _ _) ?_)
  ·simp only [List.take_succ_cons, List.take_zero]
   refine looseSteps_cons (fun k a' w' hk0' hk1' hR hG hkp hd => ?_) ?_
   ·have hR0 : Below w1.drew.heap.size w1.drew w' := hR
    have hRb : Below w1.heap.size w1 w' := ⟨hR0.os, hR0.tape, hR0.output, hR0.size, hR0.block⟩
    have k2' : a'.tmps.getD 2 undef = .pointer (some ⟨w.heap.size, 0, none⟩) := hkp 2 (by rfl)
    have rr0 := (hRb.cell (p := ⟨w.heap.size, 0, none⟩) (by show w.heap.size < _; omega)).trans a0
    have rr1 := (hRb.cell (p := ⟨w.heap.size, 1, none⟩) (by show w.heap.size < _; omega)).trans a1
    have rr2 := (hRb.cell (p := ⟨w.heap.size, 2, none⟩) (by show w.heap.size < _; omega)).trans a2
    have rr3 := (hRb.cell (p := ⟨w.heap.size, 3, none⟩) (by show w.heap.size < _; omega)).trans a3
    have rr4 := (hRb.cell (p := ⟨w.heap.size, 4, none⟩) (by show w.heap.size < _; omega)).trans a4
    unfold looseRun
    go_simp
    exact ⟨Below.refl _ _, trivial, rfl⟩
   refine looseSteps_cons (fun k a' w' hk0' hk1' hR hG hkp hd => ?_) ?_
   ·have hR0 : Below w1.drew.heap.size w1.drew w' := hR
    have hRb : Below w1.heap.size w1 w' := ⟨hR0.os, hR0.tape, hR0.output, hR0.size, hR0.block⟩
    have k2' : a'.tmps.getD 2 undef = .pointer (some ⟨w.heap.size, 0, none⟩) := hkp 2 (by rfl)
    unfold looseRun
    go_simp
    exact ⟨Below.refl _ _, trivial, rfl⟩
   refine looseSteps_cons (fun k a' w' hk0' hk1' hR hG hkp hd => ?_) ?_
   ·have hR0 : Below w1.drew.heap.size w1.drew w' := hR
    have hRb : Below w1.heap.size w1 w' := ⟨hR0.os, hR0.tape, hR0.output, hR0.size, hR0.block⟩
    have e1 := hd.1 rfl
    have e1' : a'.tmps.getD 15 undef = _ := e1
    have e1q := e1'
    rw [Array.getD_eq_getD_getElem?] at e1q
    have rr2 := (hRb.cell (p := ⟨w.heap.size, 2, none⟩) (by show w.heap.size < _; omega)).trans a2
    unfold looseRun
    go_simp
    exact ⟨Below.refl _ _, trivial, rfl⟩
   refine looseSteps_cons (fun k a' w' hk0' hk1' hR hG hkp hd => ?_) ?_
   ·have hR0 : Below w1.drew.heap.size w1.drew w' := hR
    have hRb : Below w1.heap.size w1 w' := ⟨hR0.os, hR0.tape, hR0.output, hR0.size, hR0.block⟩
    have k6' : a'.tmps.getD 6 undef = .int .i64 (kn : Int) := hkp 6 (by rfl)
    unfold looseRun
    go_simp
    exact ⟨Below.refl _ _, trivial, rfl⟩
   refine looseSteps_cons (fun k a' w' hk0' hk1' hR hG hkp hd => ?_) ?_
   ·have hR0 : Below w1.drew.heap.size w1.drew w' := hR
    have hRb : Below w1.heap.size w1 w' := ⟨hR0.os, hR0.tape, hR0.output, hR0.size, hR0.block⟩
    have e1 := hd.1 rfl
    have e2 := hd.2.1 rfl
    have e1' : a'.tmps.getD 16 undef = _ := e1
    have e1q := e1'
    rw [Array.getD_eq_getD_getElem?] at e1q
    have e2' : a'.tmps.getD 17 undef = _ := e2
    have e2q := e2'
    rw [Array.getD_eq_getD_getElem?] at e2q
    unfold looseRun
    go_simp
    refine ⟨rfl, (HWO.out _ hRb).mono ?_⟩
    rintro e w2 ⟨T', c', rfl, o, hb2⟩
    exact ⟨_, rfl, hb2, trivial, _, _, rfl, Own.more o (by have := k1.size; have := hRb.size; omega)⟩
   refine looseSteps_cons (fun k a' w' hk0' hk1' hR hG hkp hd => ?_) ?_
   ·have hR0 : Below w1.drew.heap.size w1.drew w' := hR
    have hRb : Below w1.heap.size w1 w' := ⟨hR0.os, hR0.tape, hR0.output, hR0.size, hR0.block⟩
    have e1 := hd.1 rfl
    obtain ⟨R, cR, e2, oM⟩ := hd.2.1 rfl
    have e1' : a'.tmps.getD 14 undef = _ := e1
    have e1q := e1'
    rw [Array.getD_eq_getD_getElem?] at e1q
    have e2' : a'.tmps.getD 18 undef = _ := e2
    have e2q := e2'
    rw [Array.getD_eq_getD_getElem?] at e2q
    unfold looseRun
    go_simp
    refine ⟨rfl, (tellItems_any ms R cR who is fs nx I ci F cf base w' (Own.below hI1 hRb) (Own.below hF1 hRb) (by have := k1.size; have := hRb.size; omega) HB.out (HT.out.below (k1.trans (hRb.mono k1.size)) (Nat.le_refl _)) oM hM).mono ?_⟩
    rw [← HRES.out]
    rintro e w2 ⟨I', ci', F', cf', rfl, o1, o2, hb2⟩
    exact ⟨_, rfl, hb2, trivial, _, rfl, I', ci', F', cf', rfl, o1, o2⟩
   refine looseSteps_cons (fun k a' w' hk0' hk1' hR hG hkp hd => ?_) ?_
   ·have hR0 : Below w1.drew.heap.size w1.drew w' := hR
    have hRb : Below w1.heap.size w1 w' := ⟨hR0.os, hR0.tape, hR0.output, hR0.size, hR0.block⟩
    obtain ⟨u, e1, hu⟩ := hd.1 rfl
    have e1' : a'.tmps.getD 19 undef = _ := e1
    have e1q := e1'
    rw [Array.getD_eq_getD_getElem?] at e1q
    unfold looseRun
    go_simp
    exact ⟨Below.refl _ _, trivial, hu⟩
   refine looseSteps_cons (fun k a' w' hk0' hk1' hR hG hkp hd => ?_) ?_
   ·have hR0 : Below w1.drew.heap.size w1.drew w' := hR
    have hRb : Below w1.heap.size w1 w' := ⟨hR0.os, hR0.tape, hR0.output, hR0.size, hR0.block⟩
    obtain ⟨u, e1, hu⟩ := hd.1 rfl
    have e1' : a'.tmps.getD 19 undef = _ := e1
    have e1q := e1'
    rw [Array.getD_eq_getD_getElem?] at e1q
    unfold looseRun
    go_simp
    exact ⟨Below.refl _ _, trivial, rfl⟩
   exact looseSteps_nil
  ·intro w5 b5
   simp only [List.take_succ_cons, List.take_zero, List.drop_succ_cons, List.drop_zero]
   refine looseAll_cons fun v14 h14 => ?_
   refine looseAll_cons fun v15 h15 => ?_
   refine looseAll_cons fun v16 h16 => ?_
   refine looseAll_cons fun v17 h17 => ?_
   refine looseAll_cons fun v18 h18 => ?_
   refine looseAll_cons fun v19 h19 => ?_
   refine looseAll_cons fun v20 h20 => ?_
   refine looseAll_cons fun v21 h21 => ?_
   refine looseAll_nil ?_
   have e2 : v21 = .string res.2 := h21
   subst e2
   obtain ⟨I', ci', F', cf', rfl, o1, o2⟩ := h20
   clear h14 h15 h16 h17 h18 h19 h21
   have k5 := k1.trans (b5.mono k1.size)
   have oR5 := Own.below oR1 b5
   have hNI' : ∀ b, blk I' = some b → b ≠ w.heap.size + 1 := fun b hb e => own_ne o1 oR5 (by decide) b hb (by rw [e]; rfl)
   have hNF' : ∀ b, blk F' = some b → b ≠ w.heap.size + 1 := fun b hb e => own_ne o2 oR5 (by decide) b hb (by rw [e]; rfl)
   clear a0 a1 a2 a3 a4
   have r0 := (show _ = some (Value.string { data := #[] }) from oR5.cell rfl (j := 0) (by omega))
   have rf0 := oR5.frozen rfl 0
   have r1 := (show _ = some (Value.string { data := #[] }) from oR5.cell rfl (j := 1) (by omega))
   have rf1 := oR5.frozen rfl 1
   have r2 := (show _ = some (Value.slice none 0 0) from oR5.cell rfl (j := 2) (by omega))
   have rf2 := oR5.frozen rfl 2
   have r3 := (show _ = some (Value.slice none 0 0) from oR5.cell rfl (j := 3) (by omega))
   have rf3 := oR5.frozen rfl 3
   have r4 := (show _ = some (Value.int .i64 0) from oR5.cell rfl (j := 4) (by omega))
   have rf4 := oR5.frozen rfl 4
   rw [← HRES.out] at HQ
   simp only [Act.put, List.setIfInBounds_toArray, List.set_cons_zero, List.set_cons_succ]
   go_wp2_with fail
   refine bodyPost_ret (v := .tuple #[.agg #[Value.string res.1.1.1, Value.string res.1.1.2, Value.slice I' res.1.2.1.length ci', Value.slice F' res.1.2.2.1.length cf', Value.int .i64 res.1.2.2.2], .string res.2]) ?_ rfl ?_
   ·simp [results, Tryz.results50, go_sem, r0, r1, r2, r3, r4]
   ·rw [HQ.out]
    exact ⟨I', ci', F', cf', rfl, (own_setN (own_setN (own_setN (own_setN (own_setN o1 (w.heap.size + 1) 0 (Value.string res.1.1.1) hNI') (w.heap.size + 1) 1 (Value.string res.1.1.2) hNI') (w.heap.size + 1) 2 (Value.slice I' res.1.2.1.length ci') hNI') (w.heap.size + 1) 3 (Value.slice F' res.1.2.2.1.length cf') hNI') (w.heap.size + 1) 4 (Value.int .i64 res.1.2.2.2) hNI'), (own_setN (own_setN (own_setN (own_setN (own_setN o2 (w.heap.size + 1) 0 (Value.string res.1.1.1) hNF') (w.heap.size + 1) 1 (Value.string res.1.1.2) hNF') (w.heap.size + 1) 2 (Value.slice I' res.1.2.1.length ci') hNF') (w.heap.size + 1) 3 (Value.slice F' res.1.2.2.1.length cf') hNF') (w.heap.size + 1) 4 (Value.int .i64 res.1.2.2.2) hNF'), (((((k5.setCell (p := ⟨w.heap.size + 1, 0, none⟩) (by show w.heap.size ≤ w.heap.size + 1; omega) (Value.string res.1.1.1)).setCell (p := ⟨w.heap.size + 1, 1, none⟩) (by show w.heap.size ≤ w.heap.size + 1; omega) (Value.string res.1.1.2)).setCell (p := ⟨w.heap.size + 1, 2, none⟩) (by show w.heap.size ≤ w.heap.size + 1; omega) (Value.slice I' res.1.2.1.length ci')).setCell (p := ⟨w.heap.size + 1, 3, none⟩) (by show w.heap.size ≤ w.heap.size + 1; omega) (Value.slice F' res.1.2.2.1.length cf')).setCell (p := ⟨w.heap.size + 1, 4, none⟩) (by show w.heap.size ≤ w.heap.size + 1; omega) (Value.int .i64 res.1.2.2.2))⟩
set_option maxHeartbeats 3200000 in
theorem changeFansF_any (text : ByteArray) (who : ElHandle) (is : List ElItem) (fs : List ElHandle) (nx : Int) (I : Option Addr) (ci : Nat) (F : Option Addr) (cf base : Nat) (w : World) (hI : OwnE 4 encItem 69 w base I ci is) (hF : OwnE 2 encHandle 29 w base F cf fs) (hb : base ≤ w.heap.size) (hv : brB who is fs nx = true) (hs : text.size ≤ maxLen) :
    Calls Tryz.prog 51 #[.agg #[Value.string who.1, Value.string who.2, Value.slice I is.length ci, Value.slice F fs.length cf, Value.int .i64 nx], .string text, .func (.func 52) #[] #[]] w (OutBl base (folwOf (who, is, fs, nx) text) w) := by
 have zw : (w.alloc (.cells #[Value.string who.1, Value.string who.2, Value.slice I is.length ci, Value.slice F fs.length cf, Value.int .i64 nx] 33)).heap.size = w.heap.size + 1 := by simp
 have hbA : Below w.heap.size w ((w.alloc (.cells #[Value.string who.1, Value.string who.2, Value.slice I is.length ci, Value.slice F fs.length cf, Value.int .i64 nx] 33)).alloc (.cells #[Value.string { data := #[] }, Value.string { data := #[] }, Value.slice none 0 0, Value.slice none 0 0, Value.int .i64 0] 33)) := ((Below.refl _ _).alloc (Nat.le_refl _) _).alloc (by simp) _
 have zA : ((w.alloc (.cells #[Value.string who.1, Value.string who.2, Value.slice I is.length ci, Value.slice F fs.length cf, Value.int .i64 nx] 33)).alloc (.cells #[Value.string { data := #[] }, Value.string { data := #[] }, Value.slice none 0 0, Value.slice none 0 0, Value.int .i64 0] 33)).heap.size = w.heap.size + 2 := by simp
 have oB : Own ((w.alloc (.cells #[Value.string who.1, Value.string who.2, Value.slice I is.length ci, Value.slice F fs.length cf, Value.int .i64 nx] 33)).alloc (.cells #[Value.string { data := #[] }, Value.string { data := #[] }, Value.slice none 0 0, Value.slice none 0 0, Value.int .i64 0] 33)) w.heap.size 33 5 (some ⟨w.heap.size, 0, none⟩) 1 1 (bxC who I is.length ci F fs.length cf nx) := Own.below (Own.lit w 33 5 1 #[Value.string who.1, Value.string who.2, Value.slice I is.length ci, Value.slice F fs.length cf, Value.int .i64 nx] (bxC who I is.length ci F fs.length cf nx) (by simp only [maxLen]; omega) rfl) ((Below.refl _ _).alloc (Nat.le_refl _) _)
 have oR : Own ((w.alloc (.cells #[Value.string who.1, Value.string who.2, Value.slice I is.length ci, Value.slice F fs.length cf, Value.int .i64 nx] 33)).alloc (.cells #[Value.string { data := #[] }, Value.string { data := #[] }, Value.slice none 0 0, Value.slice none 0 0, Value.int .i64 0] 33)) (w.heap.size + 1) 33 5 (some ⟨w.heap.size + 1, 0, none⟩) 1 1 zBr' := by
  have := Own.lit (w.alloc (.cells #[Value.string who.1, Value.string who.2, Value.slice I is.length ci, Value.slice F fs.length cf, Value.int .i64 nx] 33)) 33 5 1 #[Value.string { data := #[] }, Value.string { data := #[] }, Value.slice none 0 0, Value.slice none 0 0, Value.int .i64 0] zBr' (by simp only [maxLen]; omega) rfl
  rw [zw] at this
  exact this
 clear zw
 have HB := Lib.hid hv
 obtain ⟨hw, hi, hf, hn⟩ := brB_of hv
 have hi8 := fd_len hi
 have hf10 := (Fv.of hf).1
 have HI := Lib.hid hi
 have HF := Lib.hid hf
 clear hw hi hf hn hv
 have hIA := Own.below hI hbA
 have hNI : ∀ b, blk I = some b → b ≠ w.heap.size + 1 := fun b hb => by have := (Own.lt hI hb).2; omega
 have hFA := Own.below hF hbA
 have hNF : ∀ b, blk F = some b → b ≠ w.heap.size + 1 := fun b hb => by have := (Own.lt hF hb).2; omega
 go_enter Tryz.func51, Tryz.ntmps51
 go_wp2_with fail
 generalize ((w.alloc (.cells #[Value.string who.1, Value.string who.2, Value.slice I is.length ci, Value.slice F fs.length cf, Value.int .i64 nx] 33)).alloc (.cells #[Value.string { data := #[] }, Value.string { data := #[] }, Value.slice none 0 0, Value.slice none 0 0, Value.int .i64 0] 33)) = wA at *
 refine (implReadHandle_any text wA hs).mono ?_
 rintro e w1 ⟨rfl, b1⟩
 have k1 := hbA.trans (b1.mono hbA.size)
 have hI1 := Own.below hIA b1
 have hF1 := Own.below hFA b1
 have oB1 := Own.below oB b1
 have oR1 := Own.below oR b1
 have z1 : w.heap.size + 1 < w1.heap.size := by have := b1.size; omega
 have b12 : Below w1.heap.size w1 (w1.alloc (.cells #[Value.string (rhOf text).1, Value.string (rhOf text).2] 29)) := (Below.refl _ _).alloc (Nat.le_refl _) _
 have k2 := k1.trans (b12.mono k1.size)
 have oB2 := Own.below oB1 b12
 have oR2 := Own.below oR1 b12
 have hI2 := Own.below hI1 b12
 have hF2 := Own.below hF1 b12
 have x0 : (w1.alloc (.cells #[Value.string (rhOf text).1, Value.string (rhOf text).2] 29)).cell? ⟨w1.heap.size, 0, none⟩ = some (Value.string (rhOf text).1) := by rw [World.cell?_alloc_at _ _ _ _ rfl]; rfl
 have x1 : (w1.alloc (.cells #[Value.string (rhOf text).1, Value.string (rhOf text).2] 29)).cell? ⟨w1.heap.size, 1, none⟩ = some (Value.string (rhOf text).2) := by rw [World.cell?_alloc_at _ _ _ _ rfl]; rfl
 have zX : w1.heap.size < (w1.alloc (.cells #[Value.string (rhOf text).1, Value.string (rhOf text).2] 29)).heap.size := by simp
 cases ho : rhOk text
 ·have HQ : Hid (folwOf (who, is, fs, nx) text = ((who, is, fs, nx), wNo)) := Lib.hid (by unfold folwOf; rw [if_neg (by rw [ho]; simp)])
  have a0 := (show _ = some (Value.string who.1) from oB2.cell rfl (j := 0) (by omega))
  have a1 := (show _ = some (Value.string who.2) from oB2.cell rfl (j := 1) (by omega))
  have a2 := (show _ = some (Value.slice I is.length ci) from oB2.cell rfl (j := 2) (by omega))
  have a3 := (show _ = some (Value.slice F fs.length cf) from oB2.cell rfl (j := 3) (by omega))
  have a4 := (show _ = some (Value.int .i64 nx) from oB2.cell rfl (j := 4) (by omega))
  have r0 := (show _ = some (Value.string { data := #[] }) from oR2.cell rfl (j := 0) (by omega))
  have rf0 := oR2.frozen rfl 0
  have r1 := (show _ = some (Value.string { data := #[] }) from oR2.cell rfl (j := 1) (by omega))
  have rf1 := oR2.frozen rfl 1
  have r2 := (show _ = some (Value.slice none 0 0) from oR2.cell rfl (j := 2) (by omega))
  have rf2 := oR2.frozen rfl 2
  have r3 := (show _ = some (Value.slice none 0 0) from oR2.cell rfl (j := 3) (by omega))
  have rf3 := oR2.frozen rfl 3
  have r4 := (show _ = some (Value.int .i64 0) from oR2.cell rfl (j := 4) (by omega))
  have rf4 := oR2.frozen rfl 4
  clear ho
  go_upto_region 3 with fail
  generalize (w1.alloc (.cells #[Value.string (rhOf text).1, Value.string (rhOf text).2] 29)) = w2 at *
  go_wp2_with fail
  refine bodyPost_ret (v := .tuple #[.agg #[Value.string who.1, Value.string who.2, Value.slice I is.length ci, Value.slice F fs.length cf, Value.int .i64 nx], .string { data := #[110, 111] }]) ?_ rfl ?_
  ·simp [results, Tryz.results51, go_sem, r0, r1, r2, r3, r4]
  ·rw [HQ.out]
   exact ⟨I, ci, F, cf, rfl, (own_setN (own_setN (own_setN (own_setN (own_setN hI2 (w.heap.size + 1) 0 (Value.string who.1) hNI) (w.heap.size + 1) 1 (Value.string who.2) hNI) (w.heap.size + 1) 2 (Value.slice I is.length ci) hNI) (w.heap.size + 1) 3 (Value.slice F fs.length cf) hNI) (w.heap.size + 1) 4 (Value.int .i64 nx) hNI), (own_setN (own_setN (own_setN (own_setN (own_setN hF2 (w.heap.size + 1) 0 (Value.string who.1) hNF) (w.heap.size + 1) 1 (Value.string who.2) hNF) (w.heap.size + 1) 2 (Value.slice I is.length ci) hNF) (w.heap.size + 1) 3 (Value.slice F fs.length cf) hNF) (w.heap.size + 1) 4 (Value.int .i64 nx) hNF), (((((k2.setCell (p := ⟨w.heap.size + 1, 0, none⟩) (by show w.heap.size ≤ w.heap.size + 1; omega) (Value.string who.1)).setCell (p := ⟨w.heap.size + 1, 1, none⟩) (by show w.heap.size ≤ w.heap.size + 1; omega) (Value.string who.2)).setCell (p := ⟨w.heap.size + 1, 2, none⟩) (by show w.heap.size ≤ w.heap.size + 1; omega) (Value.slice I is.length ci)).setCell (p := ⟨w.heap.size + 1, 3, none⟩) (by show w.heap.size ≤ w.heap.size + 1; omega) (Value.slice F fs.length cf)).setCell (p := ⟨w.heap.size + 1, 4, none⟩) (by show w.heap.size ≤ w.heap.size + 1; omega) (Value.int .i64 nx))⟩
 ·obtain ⟨⟨_, hz1⟩, _, hz2⟩ := hv_sizes (rhOf_hv ho)
  have HPQ : Hid (folwOf (who, is, fs, nx) text = if folOk fs (rhOf text) = true then ((who, is, folOf fs (rhOf text), nx), wOk) else ((who, is, fs, nx), wNo)) := Lib.hid (by unfold folwOf; rw [if_pos ho])
  clear ho
  generalize rhOf text = x at *
  have hx1 : x.1.size ≤ maxLen := by unfold maxLen; omega
  have hx2 : x.2.size ≤ maxLen := by unfold maxLen; omega
  have a0 := (show _ = some (Value.string who.1) from oB2.cell rfl (j := 0) (by omega))
  have a1 := (show _ = some (Value.string who.2) from oB2.cell rfl (j := 1) (by omega))
  have a2 := (show _ = some (Value.slice I is.length ci) from oB2.cell rfl (j := 2) (by omega))
  have a3 := (show _ = some (Value.slice F fs.length cf) from oB2.cell rfl (j := 3) (by omega))
  have a4 := (show _ = some (Value.int .i64 nx) from oB2.cell rfl (j := 4) (by omega))
  go_upto_region 4 with fail
  generalize (w1.alloc (.cells #[Value.string x.1, Value.string x.2] 29)) = w2 at *
  go_wp2_with fail
  refine (implFollow_any F cf w2.heap.size fs x w2 (OwnE.rd hF2) (Nat.le_refl _) (by omega) (Own.shp hF2) (fv_sz HF.out) ⟨hx1, hx2⟩).mono ?_
  rintro e w3 ⟨R, cR, rfl, oF, b3⟩
  have k3 := k2.trans (b3.mono k2.size)
  have oB3 := Own.below oB2 b3
  have oR3 := Own.below oR2 b3
  have hI3 := Own.below hI2 b3
  have hF3 := Own.below hF2 b3
  have oF3 := Own.more (base' := base) oF (Nat.le_trans hb k2.size)
  clear a0 a1 a2 a3 a4
  cases ho : folOk fs x
  ·have HQ : Hid (folwOf (who, is, fs, nx) text = ((who, is, fs, nx), wNo)) := Lib.hid (by rw [HPQ.out, if_neg (by rw [ho]; simp)])
   clear ho
   have a0 := (show _ = some (Value.string who.1) from oB3.cell rfl (j := 0) (by omega))
   have a1 := (show _ = some (Value.string who.2) from oB3.cell rfl (j := 1) (by omega))
   have a2 := (show _ = some (Value.slice I is.length ci) from oB3.cell rfl (j := 2) (by omega))
   have a3 := (show _ = some (Value.slice F fs.length cf) from oB3.cell rfl (j := 3) (by omega))
   have a4 := (show _ = some (Value.int .i64 nx) from oB3.cell rfl (j := 4) (by omega))
   have r0 := (show _ = some (Value.string { data := #[] }) from oR3.cell rfl (j := 0) (by omega))
   have rf0 := oR3.frozen rfl 0
   have r1 := (show _ = some (Value.string { data := #[] }) from oR3.cell rfl (j := 1) (by omega))
   have rf1 := oR3.frozen rfl 1
   have r2 := (show _ = some (Value.slice none 0 0) from oR3.cell rfl (j := 2) (by omega))
   have rf2 := oR3.frozen rfl 2
   have r3 := (show _ = some (Value.slice none 0 0) from oR3.cell rfl (j := 3) (by omega))
   have rf3 := oR3.frozen rfl 3
   have r4 := (show _ = some (Value.int .i64 0) from oR3.cell rfl (j := 4) (by omega))
   have rf4 := oR3.frozen rfl 4
   go_wp2_with fail
   refine bodyPost_ret (v := .tuple #[.agg #[Value.string who.1, Value.string who.2, Value.slice I is.length ci, Value.slice F fs.length cf, Value.int .i64 nx], .string { data := #[110, 111] }]) ?_ rfl ?_
   ·simp [results, Tryz.results51, go_sem, r0, r1, r2, r3, r4]
   ·rw [HQ.out]
    exact ⟨I, ci, F, cf, rfl, (own_setN (own_setN (own_setN (own_setN (own_setN hI3 (w.heap.size + 1) 0 (Value.string who.1) hNI) (w.heap.size + 1) 1 (Value.string who.2) hNI) (w.heap.size + 1) 2 (Value.slice I is.length ci) hNI) (w.heap.size + 1) 3 (Value.slice F fs.length cf) hNI) (w.heap.size + 1) 4 (Value.int .i64 nx) hNI), (own_setN (own_setN (own_setN (own_setN (own_setN hF3 (w.heap.size + 1) 0 (Value.string who.1) hNF) (w.heap.size + 1) 1 (Value.string who.2) hNF) (w.heap.size + 1) 2 (Value.slice I is.length ci) hNF) (w.heap.size + 1) 3 (Value.slice F fs.length cf) hNF) (w.heap.size + 1) 4 (Value.int .i64 nx) hNF), (((((k3.setCell (p := ⟨w.heap.size + 1, 0, none⟩) (by show w.heap.size ≤ w.heap.size + 1; omega) (Value.string who.1)).setCell (p := ⟨w.heap.size + 1, 1, none⟩) (by show w.heap.size ≤ w.heap.size + 1; omega) (Value.string who.2)).setCell (p := ⟨w.heap.size + 1, 2, none⟩) (by show w.heap.size ≤ w.heap.size + 1; omega) (Value.slice I is.length ci)).setCell (p := ⟨w.heap.size + 1, 3, none⟩) (by show w.heap.size ≤ w.heap.size + 1; omega) (Value.slice F fs.length cf)).setCell (p := ⟨w.heap.size + 1, 4, none⟩) (by show w.heap.size ≤ w.heap.size + 1; omega) (Value.int .i64 nx))⟩
  ·have HQ : Hid (folwOf (who, is, fs, nx) text = ((who, is, folOf fs x, nx), wOk)) := Lib.hid (by rw [HPQ.out, if_pos ho])
   clear ho
   generalize folOf fs x = gs at *
   have fz3 := oB3.frozen rfl 3
   have sB := Own.set oB3 rfl (j := 3) (Value.slice R gs.length cR)
   have hNR : ∀ b, blk R = some b → b ≠ w.heap.size := fun b hb => by have := (Own.lt oF hb).1; have := k2.size; omega
   have hNR : ∀ b, blk R = some b → b ≠ w.heap.size := fun b hb e => own_ne oF oB3 (by decide) b hb (by rw [e]; rfl)
   have hNR1 : ∀ b, blk R = some b → b ≠ w.heap.size + 1 := fun b hb e => own_ne oF oR3 (by decide) b hb (by rw [e]; rfl)
   have hI4 := own_setN hI3 w.heap.size 3 (Value.slice R gs.length cR) (fun b hb => by have := (Own.lt hI hb).2; omega)
   have oF4 := own_setN oF3 w.heap.size 3 (Value.slice R gs.length cR) hNR
   have k4 := k3.setCell (p := ⟨w.heap.size, 3, none⟩) (Nat.le_refl _) (Value.slice R gs.length cR)
   have oB4 := sB.1
   have oR4 := own_setN oR3 w.heap.size 3 (Value.slice R gs.length cR) (fun b hb => by simp [blk] at hb; omega)
   have a0 := (show _ = some (Value.string who.1) from oB3.cell rfl (j := 0) (by omega))
   have a1 := (show _ = some (Value.string who.2) from oB3.cell rfl (j := 1) (by omega))
   have a2 := (show _ = some (Value.slice I is.length ci) from oB3.cell rfl (j := 2) (by omega))
   have a3 := (show _ = some (Value.slice F fs.length cf) from oB3.cell rfl (j := 3) (by omega))
   have a4 := (show _ = some (Value.int .i64 nx) from oB3.cell rfl (j := 4) (by omega))
   go_upto_region 8 with fail
   clear a0 a1 a2 a3 a4
   generalize (w3.setCell ⟨w.heap.size, 3, none⟩ (Value.slice R gs.length cR)) = w4 at *
   have a0 := (show _ = some (Value.string who.1) from oB4.cell rfl (j := 0) (by omega))
   have a1 := (show _ = some (Value.string who.2) from oB4.cell rfl (j := 1) (by omega))
   have a2 := (show _ = some (Value.slice I is.length ci) from oB4.cell rfl (j := 2) (by omega))
   have a3 := (show _ = some (Value.slice R gs.length cR) from oB4.cell rfl (j := 3) (by omega))
   have a4 := (show _ = some (Value.int .i64 nx) from oB4.cell rfl (j := 4) (by omega))
   have r0 := (show _ = some (Value.string { data := #[] }) from oR4.cell rfl (j := 0) (by omega))
   have rf0 := oR4.frozen rfl 0
   have r1 := (show _ = some (Value.string { data := #[] }) from oR4.cell rfl (j := 1) (by omega))
   have rf1 := oR4.frozen rfl 1
   have r2 := (show _ = some (Value.slice none 0 0) from oR4.cell rfl (j := 2) (by omega))
   have rf2 := oR4.frozen rfl 2
   have r3 := (show _ = some (Value.slice none 0 0) from oR4.cell rfl (j := 3) (by omega))
   have rf3 := oR4.frozen rfl 3
   have r4 := (show _ = some (Value.int .i64 0) from oR4.cell rfl (j := 4) (by omega))
   have rf4 := oR4.frozen rfl 4
   go_wp2_with fail
   refine bodyPost_ret (v := .tuple #[.agg #[Value.string who.1, Value.string who.2, Value.slice I is.length ci, Value.slice R gs.length cR, Value.int .i64 nx], .string { data := #[111, 107] }]) ?_ rfl ?_
   ·simp [results, Tryz.results51, go_sem, r0, r1, r2, r3, r4]
   ·rw [HQ.out]
    exact ⟨I, ci, R, cR, rfl, (own_setN (own_setN (own_setN (own_setN (own_setN hI4 (w.heap.size + 1) 0 (Value.string who.1) hNI) (w.heap.size + 1) 1 (Value.string who.2) hNI) (w.heap.size + 1) 2 (Value.slice I is.length ci) hNI) (w.heap.size + 1) 3 (Value.slice R gs.length cR) hNI) (w.heap.size + 1) 4 (Value.int .i64 nx) hNI), (own_setN (own_setN (own_setN (own_setN (own_setN oF4 (w.heap.size + 1) 0 (Value.string who.1) hNR1) (w.heap.size + 1) 1 (Value.string who.2) hNR1) (w.heap.size + 1) 2 (Value.slice I is.length ci) hNR1) (w.heap.size + 1) 3 (Value.slice R gs.length cR) hNR1) (w.heap.size + 1) 4 (Value.int .i64 nx) hNR1), (((((k4.setCell (p := ⟨w.heap.size + 1, 0, none⟩) (by show w.heap.size ≤ w.heap.size + 1; omega) (Value.string who.1)).setCell (p := ⟨w.heap.size + 1, 1, none⟩) (by show w.heap.size ≤ w.heap.size + 1; omega) (Value.string who.2)).setCell (p := ⟨w.heap.size + 1, 2, none⟩) (by show w.heap.size ≤ w.heap.size + 1; omega) (Value.slice I is.length ci)).setCell (p := ⟨w.heap.size + 1, 3, none⟩) (by show w.heap.size ≤ w.heap.size + 1; omega) (Value.slice R gs.length cR)).setCell (p := ⟨w.heap.size + 1, 4, none⟩) (by show w.heap.size ≤ w.heap.size + 1; omega) (Value.int .i64 nx))⟩
set_option maxHeartbeats 3200000 in
theorem changeFansU_any (text : ByteArray) (who : ElHandle) (is : List ElItem) (fs : List ElHandle) (nx : Int) (I : Option Addr) (ci : Nat) (F : Option Addr) (cf base : Nat) (w : World) (hI : OwnE 4 encItem 69 w base I ci is) (hF : OwnE 2 encHandle 29 w base F cf fs) (hb : base ≤ w.heap.size) (hv : brB who is fs nx = true) (hs : text.size ≤ maxLen) :
    Calls Tryz.prog 51 #[.agg #[Value.string who.1, Value.string who.2, Value.slice I is.length ci, Value.slice F fs.length cf, Value.int .i64 nx], .string text, .func (.func 53) #[] #[]] w (OutBl base (leavOf (who, is, fs, nx) text) w) := by
 have zw : (w.alloc (.cells #[Value.string who.1, Value.string who.2, Value.slice I is.length ci, Value.slice F fs.length cf, Value.int .i64 nx] 33)).heap.size = w.heap.size + 1 := by simp
 have hbA : Below w.heap.size w ((w.alloc (.cells #[Value.string who.1, Value.string who.2, Value.slice I is.length ci, Value.slice F fs.length cf, Value.int .i64 nx] 33)).alloc (.cells #[Value.string { data := #[] }, Value.string { data := #[] }, Value.slice none 0 0, Value.slice none 0 0, Value.int .i64 0] 33)) := ((Below.refl _ _).alloc (Nat.le_refl _) _).alloc (by simp) _
 have zA : ((w.alloc (.cells #[Value.string who.1, Value.string who.2, Value.slice I is.length ci, Value.slice F fs.length cf, Value.int .i64 nx] 33)).alloc (.cells #[Value.string { data := #[] }, Value.string { data := #[] }, Value.slice none 0 0, Value.slice none 0 0, Value.int .i64 0] 33)).heap.size = w.heap.size + 2 := by simp
 have oB : Own ((w.alloc (.cells #[Value.string who.1, Value.string who.2, Value.slice I is.length ci, Value.slice F fs.length cf, Value.int .i64 nx] 33)).alloc (.cells #[Value.string { data := #[] }, Value.string { data := #[] }, Value.slice none 0 0, Value.slice none 0 0, Value.int .i64 0] 33)) w.heap.size 33 5 (some ⟨w.heap.size, 0, none⟩) 1 1 (bxC who I is.length ci F fs.length cf nx) := Own.below (Own.lit w 33 5 1 #[Value.string who.1, Value.string who.2, Value.slice I is.length ci, Value.slice F fs.length cf, Value.int .i64 nx] (bxC who I is.length ci F fs.length cf nx) (by simp only [maxLen]; omega) rfl) ((Below.refl _ _).alloc (Nat.le_refl _) _)
 have oR : Own ((w.alloc (.cells #[Value.string who.1, Value.string who.2, Value.slice I is.length ci, Value.slice F fs.length cf, Value.int .i64 nx] 33)).alloc (.cells #[Value.string { data := #[] }, Value.string { data := #[] }, Value.slice none 0 0, Value.slice none 0 0, Value.int .i64 0] 33)) (w.heap.size + 1) 33 5 (some ⟨w.heap.size + 1, 0, none⟩) 1 1 zBr' := by
  have := Own.lit (w.alloc (.cells #[Value.string who.1, Value.string who.2, Value.slice I is.length ci, Value.slice F fs.length cf, Value.int .i64 nx] 33)) 33 5 1 #[Value.string { data := #[] }, Value.string { data := #[] }, Value.slice none 0 0, Value.slice none 0 0, Value.int .i64 0] zBr' (by simp only [maxLen]; omega) rfl
  rw [zw] at this
  exact this
 clear zw
 have HB := Lib.hid hv
 obtain ⟨hw, hi, hf, hn⟩ := brB_of hv
 have hi8 := fd_len hi
 have hf10 := (Fv.of hf).1
 have HI := Lib.hid hi
 have HF := Lib.hid hf
 clear hw hi hf hn hv
 have hIA := Own.below hI hbA
 have hNI : ∀ b, blk I = some b → b ≠ w.heap.size + 1 := fun b hb => by have := (Own.lt hI hb).2; omega
 have hFA := Own.below hF hbA
 have hNF : ∀ b, blk F = some b → b ≠ w.heap.size + 1 := fun b hb => by have := (Own.lt hF hb).2; omega
 go_enter Tryz.func51, Tryz.ntmps51
 go_wp2_with fail
 generalize ((w.alloc (.cells #[Value.string who.1, Value.string who.2, Value.slice I is.length ci, Value.slice F fs.length cf, Value.int .i64 nx] 33)).alloc (.cells #[Value.string { data := #[] }, Value.string { data := #[] }, Value.slice none 0 0, Value.slice none 0 0, Value.int .i64 0] 33)) = wA at *
 refine (implReadHandle_any text wA hs).mono ?_
 rintro e w1 ⟨rfl, b1⟩
 have k1 := hbA.trans (b1.mono hbA.size)
 have hI1 := Own.below hIA b1
 have hF1 := Own.below hFA b1
 have oB1 := Own.below oB b1
 have oR1 := Own.below oR b1
 have z1 : w.heap.size + 1 < w1.heap.size := by have := b1.size; omega
 have b12 : Below w1.heap.size w1 (w1.alloc (.cells #[Value.string (rhOf text).1, Value.string (rhOf text).2] 29)) := (Below.refl _ _).alloc (Nat.le_refl _) _
 have k2 := k1.trans (b12.mono k1.size)
 have oB2 := Own.below oB1 b12
 have oR2 := Own.below oR1 b12
 have hI2 := Own.below hI1 b12
 have hF2 := Own.below hF1 b12
 have x0 : (w1.alloc (.cells #[Value.string (rhOf text).1, Value.string (rhOf text).2] 29)).cell? ⟨w1.heap.size, 0, none⟩ = some (Value.string (rhOf text).1) := by rw [World.cell?_alloc_at _ _ _ _ rfl]; rfl
 have x1 : (w1.alloc (.cells #[Value.string (rhOf text).1, Value.string (rhOf text).2] 29)).cell? ⟨w1.heap.size, 1, none⟩ = some (Value.string (rhOf text).2) := by rw [World.cell?_alloc_at _ _ _ _ rfl]; rfl
 have zX : w1.heap.size < (w1.alloc (.cells #[Value.string (rhOf text).1, Value.string (rhOf text).2] 29)).heap.size := by simp
 cases ho : rhOk text
 ·have HQ : Hid (leavOf (who, is, fs, nx) text = ((who, is, fs, nx), wNo)) := Lib.hid (by unfold leavOf; rw [if_neg (by rw [ho]; simp)])
  have a0 := (show _ = some (Value.string who.1) from oB2.cell rfl (j := 0) (by omega))
  have a1 := (show _ = some (Value.string who.2) from oB2.cell rfl (j := 1) (by omega))
  have a2 := (show _ = some (Value.slice I is.length ci) from oB2.cell rfl (j := 2) (by omega))
  have a3 := (show _ = some (Value.slice F fs.length cf) from oB2.cell rfl (j := 3) (by omega))
  have a4 := (show _ = some (Value.int .i64 nx) from oB2.cell rfl (j := 4) (by omega))
  have r0 := (show _ = some (Value.string { data := #[] }) from oR2.cell rfl (j := 0) (by omega))
  have rf0 := oR2.frozen rfl 0
  have r1 := (show _ = some (Value.string { data := #[] }) from oR2.cell rfl (j := 1) (by omega))
  have rf1 := oR2.frozen rfl 1
  have r2 := (show _ = some (Value.slice none 0 0) from oR2.cell rfl (j := 2) (by omega))
  have rf2 := oR2.frozen rfl 2
  have r3 := (show _ = some (Value.slice none 0 0) from oR2.cell rfl (j := 3) (by omega))
  have rf3 := oR2.frozen rfl 3
  have r4 := (show _ = some (Value.int .i64 0) from oR2.cell rfl (j := 4) (by omega))
  have rf4 := oR2.frozen rfl 4
  clear ho
  go_upto_region 3 with fail
  generalize (w1.alloc (.cells #[Value.string (rhOf text).1, Value.string (rhOf text).2] 29)) = w2 at *
  go_wp2_with fail
  refine bodyPost_ret (v := .tuple #[.agg #[Value.string who.1, Value.string who.2, Value.slice I is.length ci, Value.slice F fs.length cf, Value.int .i64 nx], .string { data := #[110, 111] }]) ?_ rfl ?_
  ·simp [results, Tryz.results51, go_sem, r0, r1, r2, r3, r4]
  ·rw [HQ.out]
   exact ⟨I, ci, F, cf, rfl, (own_setN (own_setN (own_setN (own_setN (own_setN hI2 (w.heap.size + 1) 0 (Value.string who.1) hNI) (w.heap.size + 1) 1 (Value.string who.2) hNI) (w.heap.size + 1) 2 (Value.slice I is.length ci) hNI) (w.heap.size + 1) 3 (Value.slice F fs.length cf) hNI) (w.heap.size + 1) 4 (Value.int .i64 nx) hNI), (own_setN (own_setN (own_setN (own_setN (own_setN hF2 (w.heap.size + 1) 0 (Value.string who.1) hNF) (w.heap.size + 1) 1 (Value.string who.2) hNF) (w.heap.size + 1) 2 (Value.slice I is.length ci) hNF) (w.heap.size + 1) 3 (Value.slice F fs.length cf) hNF) (w.heap.size + 1) 4 (Value.int .i64 nx) hNF), (((((k2.setCell (p := ⟨w.heap.size + 1, 0, none⟩) (by show w.heap.size ≤ w.heap.size + 1; omega) (Value.string who.1)).setCell (p := ⟨w.heap.size + 1, 1, none⟩) (by show w.heap.size ≤ w.heap.size + 1; omega) (Value.string who.2)).setCell (p := ⟨w.heap.size + 1, 2, none⟩) (by show w.heap.size ≤ w.heap.size + 1; omega) (Value.slice I is.length ci)).setCell (p := ⟨w.heap.size + 1, 3, none⟩) (by show w.heap.size ≤ w.heap.size + 1; omega) (Value.slice F fs.length cf)).setCell (p := ⟨w.heap.size + 1, 4, none⟩) (by show w.heap.size ≤ w.heap.size + 1; omega) (Value.int .i64 nx))⟩
 ·obtain ⟨⟨_, hz1⟩, _, hz2⟩ := hv_sizes (rhOf_hv ho)
  have HPQ : Hid (leavOf (who, is, fs, nx) text = if ufOk fs (rhOf text) = true then ((who, is, ufOf fs (rhOf text), nx), wOk) else ((who, is, fs, nx), wNo)) := Lib.hid (by unfold leavOf; rw [if_pos ho])
  clear ho
  generalize rhOf text = x at *
  have hx1 : x.1.size ≤ maxLen := by unfold maxLen; omega
  have hx2 : x.2.size ≤ maxLen := by unfold maxLen; omega
  have a0 := (show _ = some (Value.string who.1) from oB2.cell rfl (j := 0) (by omega))
  have a1 := (show _ = some (Value.string who.2) from oB2.cell rfl (j := 1) (by omega))
  have a2 := (show _ = some (Value.slice I is.length ci) from oB2.cell rfl (j := 2) (by omega))
  have a3 := (show _ = some (Value.slice F fs.length cf) from oB2.cell rfl (j := 3) (by omega))
  have a4 := (show _ = some (Value.int .i64 nx) from oB2.cell rfl (j := 4) (by omega))
  go_upto_region 4 with fail
  generalize (w1.alloc (.cells #[Value.string x.1, Value.string x.2] 29)) = w2 at *
  go_wp2_with fail
  refine (implUnfollow_any F cf w2.heap.size fs x w2 (OwnE.rd hF2) (Nat.le_refl _) (Own.shp hF2) HF.out).mono ?_
  rintro e w3 ⟨R, cR, rfl, oF, b3⟩
  have k3 := k2.trans (b3.mono k2.size)
  have oB3 := Own.below oB2 b3
  have oR3 := Own.below oR2 b3
  have hI3 := Own.below hI2 b3
  have hF3 := Own.below hF2 b3
  have oF3 := Own.more (base' := base) oF (Nat.le_trans hb k2.size)
  clear a0 a1 a2 a3 a4
  cases ho : ufOk fs x
  ·have HQ : Hid (leavOf (who, is, fs, nx) text = ((who, is, fs, nx), wNo)) := Lib.hid (by rw [HPQ.out, if_neg (by rw [ho]; simp)])
   clear ho
   have a0 := (show _ = some (Value.string who.1) from oB3.cell rfl (j := 0) (by omega))
   have a1 := (show _ = some (Value.string who.2) from oB3.cell rfl (j := 1) (by omega))
   have a2 := (show _ = some (Value.slice I is.length ci) from oB3.cell rfl (j := 2) (by omega))
   have a3 := (show _ = some (Value.slice F fs.length cf) from oB3.cell rfl (j := 3) (by omega))
   have a4 := (show _ = some (Value.int .i64 nx) from oB3.cell rfl (j := 4) (by omega))
   have r0 := (show _ = some (Value.string { data := #[] }) from oR3.cell rfl (j := 0) (by omega))
   have rf0 := oR3.frozen rfl 0
   have r1 := (show _ = some (Value.string { data := #[] }) from oR3.cell rfl (j := 1) (by omega))
   have rf1 := oR3.frozen rfl 1
   have r2 := (show _ = some (Value.slice none 0 0) from oR3.cell rfl (j := 2) (by omega))
   have rf2 := oR3.frozen rfl 2
   have r3 := (show _ = some (Value.slice none 0 0) from oR3.cell rfl (j := 3) (by omega))
   have rf3 := oR3.frozen rfl 3
   have r4 := (show _ = some (Value.int .i64 0) from oR3.cell rfl (j := 4) (by omega))
   have rf4 := oR3.frozen rfl 4
   go_wp2_with fail
   refine bodyPost_ret (v := .tuple #[.agg #[Value.string who.1, Value.string who.2, Value.slice I is.length ci, Value.slice F fs.length cf, Value.int .i64 nx], .string { data := #[110, 111] }]) ?_ rfl ?_
   ·simp [results, Tryz.results51, go_sem, r0, r1, r2, r3, r4]
   ·rw [HQ.out]
    exact ⟨I, ci, F, cf, rfl, (own_setN (own_setN (own_setN (own_setN (own_setN hI3 (w.heap.size + 1) 0 (Value.string who.1) hNI) (w.heap.size + 1) 1 (Value.string who.2) hNI) (w.heap.size + 1) 2 (Value.slice I is.length ci) hNI) (w.heap.size + 1) 3 (Value.slice F fs.length cf) hNI) (w.heap.size + 1) 4 (Value.int .i64 nx) hNI), (own_setN (own_setN (own_setN (own_setN (own_setN hF3 (w.heap.size + 1) 0 (Value.string who.1) hNF) (w.heap.size + 1) 1 (Value.string who.2) hNF) (w.heap.size + 1) 2 (Value.slice I is.length ci) hNF) (w.heap.size + 1) 3 (Value.slice F fs.length cf) hNF) (w.heap.size + 1) 4 (Value.int .i64 nx) hNF), (((((k3.setCell (p := ⟨w.heap.size + 1, 0, none⟩) (by show w.heap.size ≤ w.heap.size + 1; omega) (Value.string who.1)).setCell (p := ⟨w.heap.size + 1, 1, none⟩) (by show w.heap.size ≤ w.heap.size + 1; omega) (Value.string who.2)).setCell (p := ⟨w.heap.size + 1, 2, none⟩) (by show w.heap.size ≤ w.heap.size + 1; omega) (Value.slice I is.length ci)).setCell (p := ⟨w.heap.size + 1, 3, none⟩) (by show w.heap.size ≤ w.heap.size + 1; omega) (Value.slice F fs.length cf)).setCell (p := ⟨w.heap.size + 1, 4, none⟩) (by show w.heap.size ≤ w.heap.size + 1; omega) (Value.int .i64 nx))⟩
  ·have HQ : Hid (leavOf (who, is, fs, nx) text = ((who, is, ufOf fs x, nx), wOk)) := Lib.hid (by rw [HPQ.out, if_pos ho])
   clear ho
   generalize ufOf fs x = gs at *
   have fz3 := oB3.frozen rfl 3
   have sB := Own.set oB3 rfl (j := 3) (Value.slice R gs.length cR)
   have hNR : ∀ b, blk R = some b → b ≠ w.heap.size := fun b hb => by have := (Own.lt oF hb).1; have := k2.size; omega
   have hNR : ∀ b, blk R = some b → b ≠ w.heap.size := fun b hb e => own_ne oF oB3 (by decide) b hb (by rw [e]; rfl)
   have hNR1 : ∀ b, blk R = some b → b ≠ w.heap.size + 1 := fun b hb e => own_ne oF oR3 (by decide) b hb (by rw [e]; rfl)
   have hI4 := own_setN hI3 w.heap.size 3 (Value.slice R gs.length cR) (fun b hb => by have := (Own.lt hI hb).2; omega)
   have oF4 := own_setN oF3 w.heap.size 3 (Value.slice R gs.length cR) hNR
   have k4 := k3.setCell (p := ⟨w.heap.size, 3, none⟩) (Nat.le_refl _) (Value.slice R gs.length cR)
   have oB4 := sB.1
   have oR4 := own_setN oR3 w.heap.size 3 (Value.slice R gs.length cR) (fun b hb => by simp [blk] at hb; omega)
   have a0 := (show _ = some (Value.string who.1) from oB3.cell rfl (j := 0) (by omega))
   have a1 := (show _ = some (Value.string who.2) from oB3.cell rfl (j := 1) (by omega))
   have a2 := (show _ = some (Value.slice I is.length ci) from oB3.cell rfl (j := 2) (by omega))
   have a3 := (show _ = some (Value.slice F fs.length cf) from oB3.cell rfl (j := 3) (by omega))
   have a4 := (show _ = some (Value.int .i64 nx) from oB3.cell rfl (j := 4) (by omega))
   go_upto_region 8 with fail
   clear a0 a1 a2 a3 a4
   generalize (w3.setCell ⟨w.heap.size, 3, none⟩ (Value.slice R gs.length cR)) = w4 at *
   have a0 := (show _ = some (Value.string who.1) from oB4.cell rfl (j := 0) (by omega))
   have a1 := (show _ = some (Value.string who.2) from oB4.cell rfl (j := 1) (by omega))
   have a2 := (show _ = some (Value.slice I is.length ci) from oB4.cell rfl (j := 2) (by omega))
   have a3 := (show _ = some (Value.slice R gs.length cR) from oB4.cell rfl (j := 3) (by omega))
   have a4 := (show _ = some (Value.int .i64 nx) from oB4.cell rfl (j := 4) (by omega))
   have r0 := (show _ = some (Value.string { data := #[] }) from oR4.cell rfl (j := 0) (by omega))
   have rf0 := oR4.frozen rfl 0
   have r1 := (show _ = some (Value.string { data := #[] }) from oR4.cell rfl (j := 1) (by omega))
   have rf1 := oR4.frozen rfl 1
   have r2 := (show _ = some (Value.slice none 0 0) from oR4.cell rfl (j := 2) (by omega))
   have rf2 := oR4.frozen rfl 2
   have r3 := (show _ = some (Value.slice none 0 0) from oR4.cell rfl (j := 3) (by omega))
   have rf3 := oR4.frozen rfl 3
   have r4 := (show _ = some (Value.int .i64 0) from oR4.cell rfl (j := 4) (by omega))
   have rf4 := oR4.frozen rfl 4
   go_wp2_with fail
   refine bodyPost_ret (v := .tuple #[.agg #[Value.string who.1, Value.string who.2, Value.slice I is.length ci, Value.slice R gs.length cR, Value.int .i64 nx], .string { data := #[111, 107] }]) ?_ rfl ?_
   ·simp [results, Tryz.results51, go_sem, r0, r1, r2, r3, r4]
   ·rw [HQ.out]
    exact ⟨I, ci, R, cR, rfl, (own_setN (own_setN (own_setN (own_setN (own_setN hI4 (w.heap.size + 1) 0 (Value.string who.1) hNI) (w.heap.size + 1) 1 (Value.string who.2) hNI) (w.heap.size + 1) 2 (Value.slice I is.length ci) hNI) (w.heap.size + 1) 3 (Value.slice R gs.length cR) hNI) (w.heap.size + 1) 4 (Value.int .i64 nx) hNI), (own_setN (own_setN (own_setN (own_setN (own_setN oF4 (w.heap.size + 1) 0 (Value.string who.1) hNR1) (w.heap.size + 1) 1 (Value.string who.2) hNR1) (w.heap.size + 1) 2 (Value.slice I is.length ci) hNR1) (w.heap.size + 1) 3 (Value.slice R gs.length cR) hNR1) (w.heap.size + 1) 4 (Value.int .i64 nx) hNR1), (((((k4.setCell (p := ⟨w.heap.size + 1, 0, none⟩) (by show w.heap.size ≤ w.heap.size + 1; omega) (Value.string who.1)).setCell (p := ⟨w.heap.size + 1, 1, none⟩) (by show w.heap.size ≤ w.heap.size + 1; omega) (Value.string who.2)).setCell (p := ⟨w.heap.size + 1, 2, none⟩) (by show w.heap.size ≤ w.heap.size + 1; omega) (Value.slice I is.length ci)).setCell (p := ⟨w.heap.size + 1, 3, none⟩) (by show w.heap.size ≤ w.heap.size + 1; omega) (Value.slice R gs.length cR)).setCell (p := ⟨w.heap.size + 1, 4, none⟩) (by show w.heap.size ≤ w.heap.size + 1; omega) (Value.int .i64 nx))⟩
end Go.Proofs.YtfnmlffpnmmcdaaGreatDoor
namespace Go.Proofs.YtfnmlffpnmmcdaaGreatDoor
set_option maxRecDepth 100000
open Go.RowKit
set_option maxHeartbeats 1600000 in
theorem fansText_any (F : Option Addr) (cf B : Nat) (fs : List ElHandle) (w : World) (h : RdE 2 encHandle w B F fs) (hB : B ≤ w.heap.size) (hv : fvB fs = true) :
    Calls Tryz.prog 47 #[.slice F fs.length cf] w fun e w' => e = .returned (.string (ftOf fs)) ∧ Below w.heap.size w w' := by
 have h10 := (Fv.of hv).1
 have HZ := Lib.hid (fv_sz hv)
 have HV := Lib.hid hv
 clear hv
 by_cases h0 : fs.length = 0
 ·have e0 : ((fs.length : Int) == 0) = true := by rw [h0]; rfl
  have HQ : Hid (ftOf fs = { data := #[110, 111, 110, 101] }) := Lib.hid (if_pos h0)
  clear h0
  go_enter Tryz.func47, Tryz.ntmps47
  go_wp2_with fail
  go_ret
  rw [HQ.out]
  exact ⟨rfl, Below.refl _ _⟩
 ·have e0 : ((fs.length : Int) == 0) = false := by rw [beq_eq_false_iff_ne]; omega
  have HQ : Hid (ftOf fs = ftTo fs fs.length) := Lib.hid (if_neg h0)
  go_enter Tryz.func47, Tryz.ntmps47
  go_wp2_with fail
  go_loopw [3, 11] (fun v i wr => ∃ (k : Nat) (R : Option Addr) (c : Nat) (cur : List ByteArray), k ≤ fs.length ∧ i = .int .i64 k ∧ v = .slice R cur.length c ∧ Hid (cur = (fs.take k).map htOf) ∧ cur.length ≤ k ∧ OwnE 1 encStr 9 wr w.heap.size R c cur ∧ Below w.heap.size w wr) (fun _ i _ => fs.length - (intOf i).toNat)
  case atStart => exact ⟨0, none, 0, [], Nat.zero_le _, rfl, rfl, Lib.hid rfl, Nat.le_refl _, Own.nil _ _ _ _ _, Below.refl _ _⟩
  case round =>
   obtain ⟨k, R, c, cur, hk, rfl, rfl, hcur, hck, hown, hbl⟩ := hrel
   have hsz := hbl.size
   by_cases hlt : k < fs.length
   ·obtain ⟨b, off, rfl, hb, hc⟩ := (h.below (hbl.mono hB)).at_ (by omega)
    have c0 : wr.cell? ⟨b, off + k * 2, none⟩ = some (Value.string (gt fs k).1) := hc k 0 (by omega) (by omega)
    have e1 : (wr.alloc (.cells #[Value.string (gt fs k).1, Value.string (gt fs k).2] 29)).cell? ⟨wr.heap.size, 0, none⟩ = some (Value.string (gt fs k).1) := by rw [World.cell?_alloc_at _ _ _ _ rfl]; rfl
    have c1 : wr.cell? ⟨b, off + k * 2 + 1, none⟩ = some (Value.string (gt fs k).2) := hc k 1 (by omega) (by omega)
    have e2 : (wr.alloc (.cells #[Value.string (gt fs k).1, Value.string (gt fs k).2] 29)).cell? ⟨wr.heap.size, 1, none⟩ = some (Value.string (gt fs k).2) := by rw [World.cell?_alloc_at _ _ _ _ rfl]; rfl
    have hownA := Own.below hown ((Below.refl _ _).alloc (Nat.le_refl _) (.cells #[Value.string (gt fs k).1, Value.string (gt fs k).2] 29))
    have hblA := hbl.alloc hsz (.cells #[Value.string (gt fs k).1, Value.string (gt fs k).2] 29)
    have HN : Hid ((fs.take (k + 1)).map htOf = (fs.take k).map htOf ++ [htOf (gt fs k)]) := Lib.hid (by rw [take_snoc hlt, List.map_append]; rfl)
    obtain ⟨m1, m2⟩ := HZ.out k hlt
    clear hc hown hbl
    go_wp2_with fail
    generalize (wr.alloc (.cells #[Value.string (gt fs k).1, Value.string (gt fs k).2] 29)) = wA at *
    refine (implHandleText_any (gt fs k).1 (gt fs k).2 wA m1 m2).mono ?_
    rintro e w3 ⟨rfl, b3⟩
    rw [show htOf ((gt fs k).1, (gt fs k).2) = htOf (gt fs k) from rfl]
    have hbl3 := hblA.trans (b3.mono hblA.size)
    have hs3 := hbl3.size
    have hown3 := Own.below hownA b3
    clear c0 c1 e1 e2 b3 hblA hownA m1 m2
    go_wp2_with (at_builtin; refine wpList_app rfl (.tmp 15) (.tmp 18) _ rfl w.heap.size 9 _ 1 16 Tryz.underlying51 info_String rfl (by omega) R (some ⟨w3.heap.size, 0, none⟩) cur.length c 1 1 (w3.heap.size + 1) (cE 1 encStr cur) (encStr (htOf (gt fs k))) rfl rfl (Own.below hown3 ((Below.refl _ _).alloc (Nat.le_refl _) _)) (rd_elem _ _ _ _ (fun j hj => by rcases (by omega : j = 0) with rfl; rfl)) (fun _ _ => encStr_one _ _) (by simp only [maxLen]; omega) (by omega) (by first | omega | (simp; omega)) ?_; intro T1 cap1 w5 hown5 hg5)
    go_roundw
    case rel => exact ⟨k + 1, T1, cap1, cur ++ [htOf (gt fs k)], by omega, by go_num, by rw [List.length_append]; rfl, Lib.hid (by rw [HN.out, ← hcur.out]), by rw [List.length_append]; simp; omega, OwnE.snoc (by omega) hown5, hbl3.trans (((Below.refl _ _).alloc hbl3.size _).trans (grown_below hg5 (fun b hb => (Own.lt hown3 hb).1) (by first | omega | (simp; omega))))⟩
    case measure => simp [intOf]; omega
   ·obtain rfl : k = fs.length := by omega
    have hcm : cur = fs.map htOf := by rw [hcur.out, List.take_length]
    have hcl : cur.length = fs.length := by rw [hcm, List.length_map]
    obtain ⟨b, rfl⟩ : ∃ b, R = some ⟨b, 0, none⟩ := by
     rcases Own.shape hown with ⟨_, h1, _⟩ | ⟨b, h1, _⟩
     ·omega
     ·exact ⟨b, h1⟩
    have hbz := (Own.lt hown (b := b) rfl).2
    have hcap : cur.length ≤ c := by
     rcases hown.shp with ⟨h1, _⟩ | ⟨_, _, _, h1, _⟩
     ·cases h1
     ·exact h1
    have hcells : ∀ (j : Nat) x, cur[j]? = some x → wr.cell? ⟨b, 0 + j, none⟩ = some (.string x) := fun j x hx => by
     have hj : j < cur.length := (List.getElem?_eq_some_iff.1 hx).1
     have := Own.cell hown rfl (j := j) (by omega)
     unfold cE at this
     rw [Nat.div_one, show gt cur j = x by unfold gt; rw [hx]; rfl] at this
     rw [Nat.zero_add]; exact this
    have hj := ftTo_join fs fs.length (by omega) (Nat.le_refl _)
    rw [List.take_length, ← hcm] at hj
    have hft := ftTo_size fs fs.length
    have hlen : (Lib.join (cur.map (·.data.toList)) ({ data := #[32] } : ByteArray).data.toList).length ≤ 140737488355328 := by
     show (Lib.join (cur.map (·.data.toList)) [32]).length ≤ _
     rw [← hj]
     have : (ftTo fs fs.length).data.toList.length = (ftTo fs fs.length).size := by simp
     omega
    have hcall := Tryz.strings_Join b 0 c cur ({ data := #[32] } : ByteArray) wr hcells hbz (by omega) hcap hlen
    have hres : (⟨(Lib.join (cur.map (·.data.toList)) ({ data := #[32] } : ByteArray).data.toList).toArray⟩ : ByteArray) = ftTo fs fs.length := by
     show (⟨(Lib.join (cur.map (·.data.toList)) [32]).toArray⟩ : ByteArray) = _
     rw [← hj]
    rw [hres] at hcall
    have HC := Lib.hid hcall
    clear hcall hres hlen hft hj hcells hcur hcm hcl
    go_wp2_with fail
    refine HC.out.mono ?_
    rintro e w4 ⟨rfl, b4⟩
    go_wp2_with fail
    go_ret
    rw [HQ.out]
    exact ⟨rfl, hbl.trans (b4.mono hsz)⟩
end Go.Proofs.YtfnmlffpnmmcdaaGreatDoor
namespace Go.Proofs.YtfnmlffpnmmcdaaGreatDoor
set_option maxRecDepth 100000
open Go.RowKit
def blR (b : ElBr) (line : ByteArray) : ElBr × ByteArray := if brvB b = true then blOf b line else ((({ data := #[] }, { data := #[] }), [], [], 0), { data := #[] })
theorem ctF_eq (s : ByteArray) : ctF s 32 = decide (fb s 32 0 < s.size) := rfl
theorem ctA_eq {s : ByteArray} (h : fb s 32 0 < s.size) : ctA s 32 = lnW s := if_pos h
theorem ctB_eq {s : ByteArray} (h : fb s 32 0 < s.size) : ctB s 32 = lnR s := if_pos h
theorem lnR_size (s : ByteArray) : (lnR s).size ≤ s.size := by unfold lnR; rw [ByteArray.size_extract]; omega
set_option maxHeartbeats 6400000 in
theorem implBridgeLine_any (line : ByteArray) (who : ElHandle) (is : List ElItem) (fs : List ElHandle) (nx : Int) (I : Option Addr) (ci : Nat) (F : Option Addr) (cf B : Nat) (w : World) (hI : RdE 4 encItem w B I is) (hF : RdE 2 encHandle w B F fs) (hB : B ≤ w.heap.size) (hl : is.length ≤ 1048576) (hlf : fs.length ≤ 1048576) (hci : is.length ≤ ci) (hiz : ∀ k, k < is.length → (gt is k).1.size ≤ maxLen ∧ (gt is k).2.1.size ≤ maxLen ∧ (gt is k).2.2.1.size ≤ maxLen) (hfz : ∀ k, k < fs.length → (gt fs k).1.size ≤ maxLen ∧ (gt fs k).2.size ≤ maxLen) (hw0 : who.1.size ≤ maxLen) (hw1 : who.2.size ≤ maxLen) (hs : line.size ≤ maxLen) (hT : KwTab w) (hE : EsTab w) :
    Calls Tryz.prog 10 #[.agg #[Value.string who.1, Value.string who.2, Value.slice I is.length ci, Value.slice F fs.length cf, Value.int .i64 nx], .string line] w (OutBl w.heap.size (blR (who, is, fs, nx) line) w) := by
 have zw : (w.alloc (.cells #[Value.string who.1, Value.string who.2, Value.slice I is.length ci, Value.slice F fs.length cf, Value.int .i64 nx] 33)).heap.size = w.heap.size + 1 := by simp
 have hbA : Below w.heap.size w ((w.alloc (.cells #[Value.string who.1, Value.string who.2, Value.slice I is.length ci, Value.slice F fs.length cf, Value.int .i64 nx] 33)).alloc (.cells #[Value.string { data := #[] }, Value.string { data := #[] }, Value.slice none 0 0, Value.slice none 0 0, Value.int .i64 0] 33)) := ((Below.refl _ _).alloc (Nat.le_refl _) _).alloc (by simp) _
 have zA : ((w.alloc (.cells #[Value.string who.1, Value.string who.2, Value.slice I is.length ci, Value.slice F fs.length cf, Value.int .i64 nx] 33)).alloc (.cells #[Value.string { data := #[] }, Value.string { data := #[] }, Value.slice none 0 0, Value.slice none 0 0, Value.int .i64 0] 33)).heap.size = w.heap.size + 2 := by simp
 have oB : Own ((w.alloc (.cells #[Value.string who.1, Value.string who.2, Value.slice I is.length ci, Value.slice F fs.length cf, Value.int .i64 nx] 33)).alloc (.cells #[Value.string { data := #[] }, Value.string { data := #[] }, Value.slice none 0 0, Value.slice none 0 0, Value.int .i64 0] 33)) w.heap.size 33 5 (some ⟨w.heap.size, 0, none⟩) 1 1 (bxC who I is.length ci F fs.length cf nx) := Own.below (Own.lit w 33 5 1 #[Value.string who.1, Value.string who.2, Value.slice I is.length ci, Value.slice F fs.length cf, Value.int .i64 nx] (bxC who I is.length ci F fs.length cf nx) (by simp only [maxLen]; omega) rfl) ((Below.refl _ _).alloc (Nat.le_refl _) _)
 have oR : Own ((w.alloc (.cells #[Value.string who.1, Value.string who.2, Value.slice I is.length ci, Value.slice F fs.length cf, Value.int .i64 nx] 33)).alloc (.cells #[Value.string { data := #[] }, Value.string { data := #[] }, Value.slice none 0 0, Value.slice none 0 0, Value.int .i64 0] 33)) (w.heap.size + 1) 33 5 (some ⟨w.heap.size + 1, 0, none⟩) 1 1 zBr' := by
  have := Own.lit (w.alloc (.cells #[Value.string who.1, Value.string who.2, Value.slice I is.length ci, Value.slice F fs.length cf, Value.int .i64 nx] 33)) 33 5 1 #[Value.string { data := #[] }, Value.string { data := #[] }, Value.slice none 0 0, Value.slice none 0 0, Value.int .i64 0] zBr' (by simp only [maxLen]; omega) rfl
  rw [zw] at this
  exact this
 clear zw
 have HT := Lib.hid hT
 have HE := Lib.hid hE
 have HIZ := Lib.hid hiz
 have HFZ := Lib.hid hfz
 clear hT hE hiz hfz
 have a0 := (show _ = some (Value.string who.1) from oB.cell rfl (j := 0) (by omega))
 have a1 := (show _ = some (Value.string who.2) from oB.cell rfl (j := 1) (by omega))
 have a2 := (show _ = some (Value.slice I is.length ci) from oB.cell rfl (j := 2) (by omega))
 have a3 := (show _ = some (Value.slice F fs.length cf) from oB.cell rfl (j := 3) (by omega))
 have a4 := (show _ = some (Value.int .i64 nx) from oB.cell rfl (j := 4) (by omega))
 go_enter Tryz.func10, Tryz.ntmps10
 go_wp2_with fail
 generalize ((w.alloc (.cells #[Value.string who.1, Value.string who.2, Value.slice I is.length ci, Value.slice F fs.length cf, Value.int .i64 nx] 33)).alloc (.cells #[Value.string { data := #[] }, Value.string { data := #[] }, Value.slice none 0 0, Value.slice none 0 0, Value.int .i64 0] 33)) = wA at *
 refine (implBridgeValid_any who I ci is F cf fs nx wA B (hI.below (hbA.mono hB)) (hF.below (hbA.mono hB)) (Nat.le_trans hB hbA.size) (by omega) (by omega) hci HIZ.out HFZ.out hw0 hw1).mono ?_
 rintro e w1 ⟨rfl, b1⟩
 have k1 := hbA.trans (b1.mono hbA.size)
 have oB1 := Own.below oB b1
 have oR1 := Own.below oR b1
 have z1 : w.heap.size + 1 < w1.heap.size := by have := b1.size; omega
 clear a0 a1 a2 a3 a4
 cases hv : brB who is fs nx
 ·have HQ : Hid (blR (who, is, fs, nx) line = ((({ data := #[] }, { data := #[] }), [], [], 0), { data := #[] })) := Lib.hid (if_neg (by show ¬ brB who is fs nx = true; rw [hv]; simp))
  clear hv
  have r0 := (show _ = some (Value.string { data := #[] }) from oR1.cell rfl (j := 0) (by omega))
  have rf0 := oR1.frozen rfl 0
  have r1 := (show _ = some (Value.string { data := #[] }) from oR1.cell rfl (j := 1) (by omega))
  have rf1 := oR1.frozen rfl 1
  have r2 := (show _ = some (Value.slice none 0 0) from oR1.cell rfl (j := 2) (by omega))
  have rf2 := oR1.frozen rfl 2
  have r3 := (show _ = some (Value.slice none 0 0) from oR1.cell rfl (j := 3) (by omega))
  have rf3 := oR1.frozen rfl 3
  have r4 := (show _ = some (Value.int .i64 0) from oR1.cell rfl (j := 4) (by omega))
  have rf4 := oR1.frozen rfl 4
  go_wp2_with fail
  refine bodyPost_ret (v := .tuple #[.agg #[Value.string { data := #[] }, Value.string { data := #[] }, Value.slice none 0 0, Value.slice none 0 0, Value.int .i64 0], .string { data := #[] }]) ?_ rfl ?_
  ·simp [results, Tryz.results10, go_sem, r0, r1, r2, r3, r4]
  ·rw [HQ.out]
   exact ⟨none, 0, none, 0, rfl, Own.nil _ _ _ _ _, Own.nil _ _ _ _ _, (by first | exact k1 | exact (((((k1.setCell (p := ⟨w.heap.size + 1, 0, none⟩) (by show w.heap.size ≤ w.heap.size + 1; omega) (Value.string { data := #[] })).setCell (p := ⟨w.heap.size + 1, 1, none⟩) (by show w.heap.size ≤ w.heap.size + 1; omega) (Value.string { data := #[] })).setCell (p := ⟨w.heap.size + 1, 2, none⟩) (by show w.heap.size ≤ w.heap.size + 1; omega) (Value.slice none 0 0)).setCell (p := ⟨w.heap.size + 1, 3, none⟩) (by show w.heap.size ≤ w.heap.size + 1; omega) (Value.slice none 0 0)).setCell (p := ⟨w.heap.size + 1, 4, none⟩) (by show w.heap.size ≤ w.heap.size + 1; omega) (Value.int .i64 0)))⟩
 ·have HB := Lib.hid hv
  have HBL : Hid (blR (who, is, fs, nx) line = blOf (who, is, fs, nx) line) := Lib.hid (if_pos hv)
  obtain ⟨hwv, hi, hf, hn⟩ := brB_of hv
  have hi8 := fd_len hi
  have hf10 := (Fv.of hf).1
  have HFV := Lib.hid hf
  clear hv hwv hi hf hn
  have a0 := (show _ = some (Value.string who.1) from oB1.cell rfl (j := 0) (by omega))
  have a1 := (show _ = some (Value.string who.2) from oB1.cell rfl (j := 1) (by omega))
  have a2 := (show _ = some (Value.slice I is.length ci) from oB1.cell rfl (j := 2) (by omega))
  have a3 := (show _ = some (Value.slice F fs.length cf) from oB1.cell rfl (j := 3) (by omega))
  have a4 := (show _ = some (Value.int .i64 nx) from oB1.cell rfl (j := 4) (by omega))
  go_wp2_with fail
  refine (copyBridge_any who I ci is F cf fs nx w1 B (hI.below (k1.mono hB)) (hF.below (k1.mono hB)) (Nat.le_trans hB k1.size) (by omega) (by omega)).mono ?_
  rintro e w2 ⟨I', ci', F', cf', rfl, o1, o2, b2⟩
  have k2 := k1.trans (b2.mono k1.size)
  have oB2 := Own.below oB1 b2
  have oR2 := Own.below oR1 b2
  clear a0 a1 a2 a3 a4 hI hF
  have a0 := (show _ = some (Value.string who.1) from oB2.cell rfl (j := 0) (by omega))
  have a1 := (show _ = some (Value.string who.2) from oB2.cell rfl (j := 1) (by omega))
  have a2 := (show _ = some (Value.slice I is.length ci) from oB2.cell rfl (j := 2) (by omega))
  have a3 := (show _ = some (Value.slice F fs.length cf) from oB2.cell rfl (j := 3) (by omega))
  have a4 := (show _ = some (Value.int .i64 nx) from oB2.cell rfl (j := 4) (by omega))
  have fz0 := oB2.frozen rfl 0
  have fz1 := oB2.frozen rfl 1
  have fz2 := oB2.frozen rfl 2
  have fz3 := oB2.frozen rfl 3
  have fz4 := oB2.frozen rfl 4
  have s0 := Own.set oB2 rfl (j := 0) (Value.string who.1)
  have s1 := Own.set s0.1 rfl (j := 1) (Value.string who.2)
  have s2 := Own.set s1.1 rfl (j := 2) (Value.slice I' is.length ci')
  have s3 := Own.set s2.1 rfl (j := 3) (Value.slice F' fs.length cf')
  have s4 := Own.set s3.1 rfl (j := 4) (Value.int .i64 nx)
  have p1 := (own_set' (own_set' (own_set' (own_set' (own_set' o1 w.heap.size 0 (Value.string who.1) (by omega)) w.heap.size 1 (Value.string who.2) (by omega)) w.heap.size 2 (Value.slice I' is.length ci') (by omega)) w.heap.size 3 (Value.slice F' fs.length cf') (by omega)) w.heap.size 4 (Value.int .i64 nx) (by omega))
  have p2 := (own_set' (own_set' (own_set' (own_set' (own_set' o2 w.heap.size 0 (Value.string who.1) (by omega)) w.heap.size 1 (Value.string who.2) (by omega)) w.heap.size 2 (Value.slice I' is.length ci') (by omega)) w.heap.size 3 (Value.slice F' fs.length cf') (by omega)) w.heap.size 4 (Value.int .i64 nx) (by omega))
  have k3 := (((((k2.setCell (p := ⟨w.heap.size, 0, none⟩) (Nat.le_refl _) (Value.string who.1)).setCell (p := ⟨w.heap.size, 1, none⟩) (Nat.le_refl _) (Value.string who.2)).setCell (p := ⟨w.heap.size, 2, none⟩) (Nat.le_refl _) (Value.slice I' is.length ci')).setCell (p := ⟨w.heap.size, 3, none⟩) (Nat.le_refl _) (Value.slice F' fs.length cf')).setCell (p := ⟨w.heap.size, 4, none⟩) (Nat.le_refl _) (Value.int .i64 nx))
  have oR3 := (own_setN (own_setN (own_setN (own_setN (own_setN oR2 w.heap.size 0 (Value.string who.1) (fun b hb => by simp [blk] at hb; omega)) w.heap.size 1 (Value.string who.2) (fun b hb => by simp [blk] at hb; omega)) w.heap.size 2 (Value.slice I' is.length ci') (fun b hb => by simp [blk] at hb; omega)) w.heap.size 3 (Value.slice F' fs.length cf') (fun b hb => by simp [blk] at hb; omega)) w.heap.size 4 (Value.int .i64 nx) (fun b hb => by simp [blk] at hb; omega))
  have oB3 := s4.1
  have z13 : w1.heap.size ≤ (((((w2.setCell ⟨w.heap.size, 0, none⟩ (Value.string who.1)).setCell ⟨w.heap.size, 1, none⟩ (Value.string who.2)).setCell ⟨w.heap.size, 2, none⟩ (Value.slice I' is.length ci')).setCell ⟨w.heap.size, 3, none⟩ (Value.slice F' fs.length cf')).setCell ⟨w.heap.size, 4, none⟩ (Value.int .i64 nx)).heap.size := by have := b2.size; simpa using this
  go_upto_region 4 with fail
  clear s0 s1 s2 s3 s4 a0 a1 a2 a3 a4 fz0 fz1 fz2 fz3 fz4 o1 o2 oB2 oR2 oB1 oR1 oB oR
  generalize (((((w2.setCell ⟨w.heap.size, 0, none⟩ (Value.string who.1)).setCell ⟨w.heap.size, 1, none⟩ (Value.string who.2)).setCell ⟨w.heap.size, 2, none⟩ (Value.slice I' is.length ci')).setCell ⟨w.heap.size, 3, none⟩ (Value.slice F' fs.length cf')).setCell ⟨w.heap.size, 4, none⟩ (Value.int .i64 nx)) = w3 at *
  have a0 := (show _ = some (Value.string who.1) from oB3.cell rfl (j := 0) (by omega))
  have a1 := (show _ = some (Value.string who.2) from oB3.cell rfl (j := 1) (by omega))
  have a2 := (show _ = some (Value.slice I' is.length ci') from oB3.cell rfl (j := 2) (by omega))
  have a3 := (show _ = some (Value.slice F' fs.length cf') from oB3.cell rfl (j := 3) (by omega))
  have a4 := (show _ = some (Value.int .i64 nx) from oB3.cell rfl (j := 4) (by omega))
  have hNI' : ∀ b, blk I' = some b → b ≠ w.heap.size + 1 := fun b hb => by have := (Own.lt p1 hb).1; omega
  have hNF' : ∀ b, blk F' = some b → b ≠ w.heap.size + 1 := fun b hb => by have := (Own.lt p2 hb).1; omega
  have zw1 := k1.size
  by_cases hfan : line = wFans
  ·have HQ : Hid (blR (who, is, fs, nx) line = ((who, is, fs, nx), ftOf fs)) := Lib.hid (by rw [HBL.out]; unfold blOf; rw [if_pos hfan])
   have qb : (line.toList == ({ data := #[102, 97, 110, 115] } : ByteArray).toList) = true := beq_iff_eq.2 (congrArg _ hfan)
   have qa : (line.toList == [102, 97, 110, 115]) = true := by have := qb; rw [show ({ data := #[102, 97, 110, 115] } : ByteArray).toList = [102, 97, 110, 115] by rw [ByteArray.toList_eq]] at this; exact this
   clear hfan
   have a0 := (show _ = some (Value.string who.1) from oB3.cell rfl (j := 0) (by omega))
   have a1 := (show _ = some (Value.string who.2) from oB3.cell rfl (j := 1) (by omega))
   have a2 := (show _ = some (Value.slice I' is.length ci') from oB3.cell rfl (j := 2) (by omega))
   have a3 := (show _ = some (Value.slice F' fs.length cf') from oB3.cell rfl (j := 3) (by omega))
   have a4 := (show _ = some (Value.int .i64 nx) from oB3.cell rfl (j := 4) (by omega))
   go_wp2_with fail
   refine wp_region_makes 4 [(isS (.agg #[Value.string who.1, Value.string who.2, Value.slice I' is.length ci', Value.slice F' fs.length cf', Value.int .i64 nx])), (isS (.pointer (some ⟨w.heap.size, 3, none⟩))), (isS (.slice F' fs.length cf')), (isS (.string (ftOf fs)))] [0, 0, 0, 0] (by kernel_rfl) (by kernel_rfl) (by rfl) (by rfl) (by rfl) ?_ ?_ ?_
   ·repeat (first | exact stbB_nil | refine stbB_cons (isS_stb _) ?_)
   ·simp only [List.take_succ_cons, List.take_zero]
    refine looseSteps_cons (fun k a' w' hk0' hk1' hR hG hkp hd => ?_) ?_
    ·have hR0 : Below w3.drew.heap.size w3.drew w' := hR
     have hRb : Below w3.heap.size w3 w' := ⟨hR0.os, hR0.tape, hR0.output, hR0.size, hR0.block⟩
     have k2' : a'.tmps.getD 2 undef = .pointer (some ⟨w.heap.size, 0, none⟩) := hkp 2 (by rfl)
     have rr0 := (hRb.cell (p := ⟨w.heap.size, 0, none⟩) (by show w.heap.size < _; omega)).trans a0
     have rr1 := (hRb.cell (p := ⟨w.heap.size, 1, none⟩) (by show w.heap.size < _; omega)).trans a1
     have rr2 := (hRb.cell (p := ⟨w.heap.size, 2, none⟩) (by show w.heap.size < _; omega)).trans a2
     have rr3 := (hRb.cell (p := ⟨w.heap.size, 3, none⟩) (by show w.heap.size < _; omega)).trans a3
     have rr4 := (hRb.cell (p := ⟨w.heap.size, 4, none⟩) (by show w.heap.size < _; omega)).trans a4
     unfold looseRun
     go_simp
     exact ⟨Below.refl _ _, trivial, rfl⟩
    refine looseSteps_cons (fun k a' w' hk0' hk1' hR hG hkp hd => ?_) ?_
    ·have hR0 : Below w3.drew.heap.size w3.drew w' := hR
     have hRb : Below w3.heap.size w3 w' := ⟨hR0.os, hR0.tape, hR0.output, hR0.size, hR0.block⟩
     have k2' : a'.tmps.getD 2 undef = .pointer (some ⟨w.heap.size, 0, none⟩) := hkp 2 (by rfl)
     unfold looseRun
     go_simp
     exact ⟨Below.refl _ _, trivial, rfl⟩
    refine looseSteps_cons (fun k a' w' hk0' hk1' hR hG hkp hd => ?_) ?_
    ·have hR0 : Below w3.drew.heap.size w3.drew w' := hR
     have hRb : Below w3.heap.size w3 w' := ⟨hR0.os, hR0.tape, hR0.output, hR0.size, hR0.block⟩
     have e1 := hd.1 rfl
     have e1' : a'.tmps.getD 18 undef = _ := e1
     have e1q := e1'
     rw [Array.getD_eq_getD_getElem?] at e1q
     have rr3 := (hRb.cell (p := ⟨w.heap.size, 3, none⟩) (by show w.heap.size < _; omega)).trans a3
     unfold looseRun
     go_simp
     exact ⟨Below.refl _ _, trivial, rfl⟩
    refine looseSteps_cons (fun k a' w' hk0' hk1' hR hG hkp hd => ?_) ?_
    ·have hR0 : Below w3.drew.heap.size w3.drew w' := hR
     have hRb : Below w3.heap.size w3 w' := ⟨hR0.os, hR0.tape, hR0.output, hR0.size, hR0.block⟩
     have e1 := hd.1 rfl
     have e1' : a'.tmps.getD 19 undef = _ := e1
     have e1q := e1'
     rw [Array.getD_eq_getD_getElem?] at e1q
     unfold looseRun
     go_simp
     refine ⟨rfl, (fansText_any F' cf' w3.heap.size fs w' ((OwnE.rd p2).below hRb) hRb.size HFV.out).mono ?_⟩
     rintro e w2 ⟨rfl, hb⟩
     exact ⟨_, rfl, hb, trivial, rfl⟩
    exact looseSteps_nil
   ·intro w4 b4
    simp only [List.take_succ_cons, List.take_zero, List.drop_succ_cons, List.drop_zero]
    refine looseAll_cons fun v17 h17 => ?_
    refine looseAll_cons fun v18 h18 => ?_
    refine looseAll_cons fun v19 h19 => ?_
    refine looseAll_cons fun v20 h20 => ?_
    refine looseAll_nil ?_
    have e1 : v17 = .agg #[Value.string who.1, Value.string who.2, Value.slice I' is.length ci', Value.slice F' fs.length cf', Value.int .i64 nx] := h17
    have e2 : v20 = .string (ftOf fs) := h20
    subst e1 e2
    clear h17 h18 h19 h20 a0 a1 a2 a3 a4
    have k4 := k3.trans (b4.mono k3.size)
    have p14 := Own.below p1 b4
    have p24 := Own.below p2 b4
    have oR4 := Own.below oR3 b4
    have r0 := (show _ = some (Value.string { data := #[] }) from oR4.cell rfl (j := 0) (by omega))
    have rf0 := oR4.frozen rfl 0
    have r1 := (show _ = some (Value.string { data := #[] }) from oR4.cell rfl (j := 1) (by omega))
    have rf1 := oR4.frozen rfl 1
    have r2 := (show _ = some (Value.slice none 0 0) from oR4.cell rfl (j := 2) (by omega))
    have rf2 := oR4.frozen rfl 2
    have r3 := (show _ = some (Value.slice none 0 0) from oR4.cell rfl (j := 3) (by omega))
    have rf3 := oR4.frozen rfl 3
    have r4 := (show _ = some (Value.int .i64 0) from oR4.cell rfl (j := 4) (by omega))
    have rf4 := oR4.frozen rfl 4
    simp only [Act.put, List.setIfInBounds_toArray, List.set_cons_zero, List.set_cons_succ]
    go_wp2_with fail
    refine bodyPost_ret (v := .tuple #[.agg #[Value.string who.1, Value.string who.2, Value.slice I' is.length ci', Value.slice F' fs.length cf', Value.int .i64 nx], .string (ftOf fs)]) ?_ rfl ?_
    ·simp [results, Tryz.results10, go_sem, r0, r1, r2, r3, r4]
    ·rw [HQ.out]
     exact ⟨I', ci', F', cf', rfl, Own.more (own_setN (own_setN (own_setN (own_setN (own_setN p14 (w.heap.size + 1) 0 (Value.string who.1) hNI') (w.heap.size + 1) 1 (Value.string who.2) hNI') (w.heap.size + 1) 2 (Value.slice I' is.length ci') hNI') (w.heap.size + 1) 3 (Value.slice F' fs.length cf') hNI') (w.heap.size + 1) 4 (Value.int .i64 nx) hNI') (by omega), Own.more (own_setN (own_setN (own_setN (own_setN (own_setN p24 (w.heap.size + 1) 0 (Value.string who.1) hNF') (w.heap.size + 1) 1 (Value.string who.2) hNF') (w.heap.size + 1) 2 (Value.slice I' is.length ci') hNF') (w.heap.size + 1) 3 (Value.slice F' fs.length cf') hNF') (w.heap.size + 1) 4 (Value.int .i64 nx) hNF') (by omega), (((((k4.setCell (p := ⟨w.heap.size + 1, 0, none⟩) (by show w.heap.size ≤ w.heap.size + 1; omega) (Value.string who.1)).setCell (p := ⟨w.heap.size + 1, 1, none⟩) (by show w.heap.size ≤ w.heap.size + 1; omega) (Value.string who.2)).setCell (p := ⟨w.heap.size + 1, 2, none⟩) (by show w.heap.size ≤ w.heap.size + 1; omega) (Value.slice I' is.length ci')).setCell (p := ⟨w.heap.size + 1, 3, none⟩) (by show w.heap.size ≤ w.heap.size + 1; omega) (Value.slice F' fs.length cf')).setCell (p := ⟨w.heap.size + 1, 4, none⟩) (by show w.heap.size ≤ w.heap.size + 1; omega) (Value.int .i64 nx))⟩
  ·have HBL1 : Hid (blR (who, is, fs, nx) line = if fb line 32 0 < line.size then (if lnW line = wItem then putOf (who, is, fs, nx) (lnR line) else if lnW line = wGone then takeOf (who, is, fs, nx) (lnR line) else if lnW line = wFollow then folwOf (who, is, fs, nx) (lnR line) else if lnW line = wLeave then leavOf (who, is, fs, nx) (lnR line) else ((who, is, fs, nx), wNo)) else ((who, is, fs, nx), wNo)) := Lib.hid (by rw [HBL.out]; unfold blOf; rw [if_neg hfan])
   have qb : (line.toList == ({ data := #[102, 97, 110, 115] } : ByteArray).toList) = false := ba_ne_list hfan
   have qa : (line.toList == [102, 97, 110, 115]) = false := by have := qb; rw [show ({ data := #[102, 97, 110, 115] } : ByteArray).toList = [102, 97, 110, 115] by rw [ByteArray.toList_eq]] at this; exact this
   clear hfan HBL
   have a0 := (show _ = some (Value.string who.1) from oB3.cell rfl (j := 0) (by omega))
   have a1 := (show _ = some (Value.string who.2) from oB3.cell rfl (j := 1) (by omega))
   have a2 := (show _ = some (Value.slice I' is.length ci') from oB3.cell rfl (j := 2) (by omega))
   have a3 := (show _ = some (Value.slice F' fs.length cf') from oB3.cell rfl (j := 3) (by omega))
   have a4 := (show _ = some (Value.int .i64 nx) from oB3.cell rfl (j := 4) (by omega))
   go_wp2_with fail
   refine (cut_any line 32 w3 hs).mono ?_
   rintro e w4 ⟨rfl, b4⟩
   have k4 := k3.trans (b4.mono k3.size)
   have p14 := Own.below p1 b4
   have p24 := Own.below p2 b4
   have oR4 := Own.below oR3 b4
   have oB4 := Own.below oB3 b4
   have z14 : w1.heap.size ≤ w4.heap.size := Nat.le_trans z13 b4.size
   clear a0 a1 a2 a3 a4
   have a0 := (show _ = some (Value.string who.1) from oB4.cell rfl (j := 0) (by omega))
   have a1 := (show _ = some (Value.string who.2) from oB4.cell rfl (j := 1) (by omega))
   have a2 := (show _ = some (Value.slice I' is.length ci') from oB4.cell rfl (j := 2) (by omega))
   have a3 := (show _ = some (Value.slice F' fs.length cf') from oB4.cell rfl (j := 3) (by omega))
   have a4 := (show _ = some (Value.int .i64 nx) from oB4.cell rfl (j := 4) (by omega))
   by_cases hsp : fb line 32 0 < line.size
   ·rw [ctF_eq, decide_eq_true hsp, ctA_eq hsp, ctB_eq hsp]
    have HB2 := Lib.hid (HBL1.out.trans (if_pos hsp))
    have hrs : (lnR line).size ≤ maxLen := Nat.le_trans (lnR_size line) hs
    clear hsp HBL1
    generalize lnW line = wd at *
    generalize lnR line = rs at *
    by_cases h0 : wd = wItem
    ·have HQ := Lib.hid (HB2.out.trans (if_pos h0))
     have q0b : (wd.toList == ({ data := #[105, 116, 101, 109] } : ByteArray).toList) = true := beq_iff_eq.2 (congrArg _ h0)
     have q0a : (wd.toList == [105, 116, 101, 109]) = true := by have := q0b; rw [show ({ data := #[105, 116, 101, 109] } : ByteArray).toList = [105, 116, 101, 109] by rw [ByteArray.toList_eq]] at this; exact this
     clear h0 HB2
     go_wp2_with fail
     refine (putItem_any rs who is fs nx I' ci' F' cf' w1.heap.size w4 p14 p24 z14 HB.out (HT.out.below k4 (Nat.le_refl _)) hrs (HE.out.below k4 (Nat.le_refl _))).mono ?_
     rintro e w5 ⟨I2, c2, F2, d2, rfl, o1, o2, b5⟩
     have k5 := k4.trans (b5.mono k4.size)
     have oR5 := Own.below oR4 b5
     have hN1 : ∀ b, blk I2 = some b → b ≠ w.heap.size + 1 := fun b hb e => own_ne o1 oR5 (by decide) b hb (by rw [e]; rfl)
     have hN2 : ∀ b, blk F2 = some b → b ≠ w.heap.size + 1 := fun b hb e => own_ne o2 oR5 (by decide) b hb (by rw [e]; rfl)
     have r0 := (show _ = some (Value.string { data := #[] }) from oR5.cell rfl (j := 0) (by omega))
     have rf0 := oR5.frozen rfl 0
     have r1 := (show _ = some (Value.string { data := #[] }) from oR5.cell rfl (j := 1) (by omega))
     have rf1 := oR5.frozen rfl 1
     have r2 := (show _ = some (Value.slice none 0 0) from oR5.cell rfl (j := 2) (by omega))
     have rf2 := oR5.frozen rfl 2
     have r3 := (show _ = some (Value.slice none 0 0) from oR5.cell rfl (j := 3) (by omega))
     have rf3 := oR5.frozen rfl 3
     have r4 := (show _ = some (Value.int .i64 0) from oR5.cell rfl (j := 4) (by omega))
     have rf4 := oR5.frozen rfl 4
     generalize putOf (who, is, fs, nx) rs = res at *
     go_wp2_with fail
     refine bodyPost_ret (v := .tuple #[.agg #[Value.string res.1.1.1, Value.string res.1.1.2, Value.slice I2 res.1.2.1.length c2, Value.slice F2 res.1.2.2.1.length d2, Value.int .i64 res.1.2.2.2], .string res.2]) ?_ rfl ?_
     ·simp [results, Tryz.results10, go_sem, r0, r1, r2, r3, r4]
     ·rw [HQ.out]
      exact ⟨I2, c2, F2, d2, rfl, Own.more (own_setN (own_setN (own_setN (own_setN (own_setN o1 (w.heap.size + 1) 0 (Value.string res.1.1.1) hN1) (w.heap.size + 1) 1 (Value.string res.1.1.2) hN1) (w.heap.size + 1) 2 (Value.slice I2 res.1.2.1.length c2) hN1) (w.heap.size + 1) 3 (Value.slice F2 res.1.2.2.1.length d2) hN1) (w.heap.size + 1) 4 (Value.int .i64 res.1.2.2.2) hN1) (by omega), Own.more (own_setN (own_setN (own_setN (own_setN (own_setN o2 (w.heap.size + 1) 0 (Value.string res.1.1.1) hN2) (w.heap.size + 1) 1 (Value.string res.1.1.2) hN2) (w.heap.size + 1) 2 (Value.slice I2 res.1.2.1.length c2) hN2) (w.heap.size + 1) 3 (Value.slice F2 res.1.2.2.1.length d2) hN2) (w.heap.size + 1) 4 (Value.int .i64 res.1.2.2.2) hN2) (by omega), (((((k5.setCell (p := ⟨w.heap.size + 1, 0, none⟩) (by show w.heap.size ≤ w.heap.size + 1; omega) (Value.string res.1.1.1)).setCell (p := ⟨w.heap.size + 1, 1, none⟩) (by show w.heap.size ≤ w.heap.size + 1; omega) (Value.string res.1.1.2)).setCell (p := ⟨w.heap.size + 1, 2, none⟩) (by show w.heap.size ≤ w.heap.size + 1; omega) (Value.slice I2 res.1.2.1.length c2)).setCell (p := ⟨w.heap.size + 1, 3, none⟩) (by show w.heap.size ≤ w.heap.size + 1; omega) (Value.slice F2 res.1.2.2.1.length d2)).setCell (p := ⟨w.heap.size + 1, 4, none⟩) (by show w.heap.size ≤ w.heap.size + 1; omega) (Value.int .i64 res.1.2.2.2))⟩
    ·have HB2 := Lib.hid (HB2.out.trans (if_neg h0))
     have q0b : (wd.toList == ({ data := #[105, 116, 101, 109] } : ByteArray).toList) = false := ba_ne_list h0
     have q0a : (wd.toList == [105, 116, 101, 109]) = false := by have := q0b; rw [show ({ data := #[105, 116, 101, 109] } : ByteArray).toList = [105, 116, 101, 109] by rw [ByteArray.toList_eq]] at this; exact this
     clear h0
     by_cases h1 : wd = wGone
     ·have HQ := Lib.hid (HB2.out.trans (if_pos h1))
      have q1b : (wd.toList == ({ data := #[103, 111, 110, 101] } : ByteArray).toList) = true := beq_iff_eq.2 (congrArg _ h1)
      have q1a : (wd.toList == [103, 111, 110, 101]) = true := by have := q1b; rw [show ({ data := #[103, 111, 110, 101] } : ByteArray).toList = [103, 111, 110, 101] by rw [ByteArray.toList_eq]] at this; exact this
      clear h1 HB2
      go_wp2_with fail
      refine (takeItem_any rs who is fs nx I' ci' F' cf' w1.heap.size w4 p14 p24 z14 HB.out (HT.out.below k4 (Nat.le_refl _))).mono ?_
      rintro e w5 ⟨I2, c2, F2, d2, rfl, o1, o2, b5⟩
      have k5 := k4.trans (b5.mono k4.size)
      have oR5 := Own.below oR4 b5
      have hN1 : ∀ b, blk I2 = some b → b ≠ w.heap.size + 1 := fun b hb e => own_ne o1 oR5 (by decide) b hb (by rw [e]; rfl)
      have hN2 : ∀ b, blk F2 = some b → b ≠ w.heap.size + 1 := fun b hb e => own_ne o2 oR5 (by decide) b hb (by rw [e]; rfl)
      have r0 := (show _ = some (Value.string { data := #[] }) from oR5.cell rfl (j := 0) (by omega))
      have rf0 := oR5.frozen rfl 0
      have r1 := (show _ = some (Value.string { data := #[] }) from oR5.cell rfl (j := 1) (by omega))
      have rf1 := oR5.frozen rfl 1
      have r2 := (show _ = some (Value.slice none 0 0) from oR5.cell rfl (j := 2) (by omega))
      have rf2 := oR5.frozen rfl 2
      have r3 := (show _ = some (Value.slice none 0 0) from oR5.cell rfl (j := 3) (by omega))
      have rf3 := oR5.frozen rfl 3
      have r4 := (show _ = some (Value.int .i64 0) from oR5.cell rfl (j := 4) (by omega))
      have rf4 := oR5.frozen rfl 4
      generalize takeOf (who, is, fs, nx) rs = res at *
      go_wp2_with fail
      refine bodyPost_ret (v := .tuple #[.agg #[Value.string res.1.1.1, Value.string res.1.1.2, Value.slice I2 res.1.2.1.length c2, Value.slice F2 res.1.2.2.1.length d2, Value.int .i64 res.1.2.2.2], .string res.2]) ?_ rfl ?_
      ·simp [results, Tryz.results10, go_sem, r0, r1, r2, r3, r4]
      ·rw [HQ.out]
       exact ⟨I2, c2, F2, d2, rfl, Own.more (own_setN (own_setN (own_setN (own_setN (own_setN o1 (w.heap.size + 1) 0 (Value.string res.1.1.1) hN1) (w.heap.size + 1) 1 (Value.string res.1.1.2) hN1) (w.heap.size + 1) 2 (Value.slice I2 res.1.2.1.length c2) hN1) (w.heap.size + 1) 3 (Value.slice F2 res.1.2.2.1.length d2) hN1) (w.heap.size + 1) 4 (Value.int .i64 res.1.2.2.2) hN1) (by omega), Own.more (own_setN (own_setN (own_setN (own_setN (own_setN o2 (w.heap.size + 1) 0 (Value.string res.1.1.1) hN2) (w.heap.size + 1) 1 (Value.string res.1.1.2) hN2) (w.heap.size + 1) 2 (Value.slice I2 res.1.2.1.length c2) hN2) (w.heap.size + 1) 3 (Value.slice F2 res.1.2.2.1.length d2) hN2) (w.heap.size + 1) 4 (Value.int .i64 res.1.2.2.2) hN2) (by omega), (((((k5.setCell (p := ⟨w.heap.size + 1, 0, none⟩) (by show w.heap.size ≤ w.heap.size + 1; omega) (Value.string res.1.1.1)).setCell (p := ⟨w.heap.size + 1, 1, none⟩) (by show w.heap.size ≤ w.heap.size + 1; omega) (Value.string res.1.1.2)).setCell (p := ⟨w.heap.size + 1, 2, none⟩) (by show w.heap.size ≤ w.heap.size + 1; omega) (Value.slice I2 res.1.2.1.length c2)).setCell (p := ⟨w.heap.size + 1, 3, none⟩) (by show w.heap.size ≤ w.heap.size + 1; omega) (Value.slice F2 res.1.2.2.1.length d2)).setCell (p := ⟨w.heap.size + 1, 4, none⟩) (by show w.heap.size ≤ w.heap.size + 1; omega) (Value.int .i64 res.1.2.2.2))⟩
     ·have HB2 := Lib.hid (HB2.out.trans (if_neg h1))
      have q1b : (wd.toList == ({ data := #[103, 111, 110, 101] } : ByteArray).toList) = false := ba_ne_list h1
      have q1a : (wd.toList == [103, 111, 110, 101]) = false := by have := q1b; rw [show ({ data := #[103, 111, 110, 101] } : ByteArray).toList = [103, 111, 110, 101] by rw [ByteArray.toList_eq]] at this; exact this
      clear h1
      by_cases h2 : wd = wFollow
      ·have HQ := Lib.hid (HB2.out.trans (if_pos h2))
       have q2b : (wd.toList == ({ data := #[102, 111, 108, 108, 111, 119] } : ByteArray).toList) = true := beq_iff_eq.2 (congrArg _ h2)
       have q2a : (wd.toList == [102, 111, 108, 108, 111, 119]) = true := by have := q2b; rw [show ({ data := #[102, 111, 108, 108, 111, 119] } : ByteArray).toList = [102, 111, 108, 108, 111, 119] by rw [ByteArray.toList_eq]] at this; exact this
       clear h2 HB2
       go_wp2_with fail
       refine (changeFansF_any rs who is fs nx I' ci' F' cf' w1.heap.size w4 p14 p24 z14 HB.out hrs).mono ?_
       rintro e w5 ⟨I2, c2, F2, d2, rfl, o1, o2, b5⟩
       have k5 := k4.trans (b5.mono k4.size)
       have oR5 := Own.below oR4 b5
       have hN1 : ∀ b, blk I2 = some b → b ≠ w.heap.size + 1 := fun b hb e => own_ne o1 oR5 (by decide) b hb (by rw [e]; rfl)
       have hN2 : ∀ b, blk F2 = some b → b ≠ w.heap.size + 1 := fun b hb e => own_ne o2 oR5 (by decide) b hb (by rw [e]; rfl)
       have r0 := (show _ = some (Value.string { data := #[] }) from oR5.cell rfl (j := 0) (by omega))
       have rf0 := oR5.frozen rfl 0
       have r1 := (show _ = some (Value.string { data := #[] }) from oR5.cell rfl (j := 1) (by omega))
       have rf1 := oR5.frozen rfl 1
       have r2 := (show _ = some (Value.slice none 0 0) from oR5.cell rfl (j := 2) (by omega))
       have rf2 := oR5.frozen rfl 2
       have r3 := (show _ = some (Value.slice none 0 0) from oR5.cell rfl (j := 3) (by omega))
       have rf3 := oR5.frozen rfl 3
       have r4 := (show _ = some (Value.int .i64 0) from oR5.cell rfl (j := 4) (by omega))
       have rf4 := oR5.frozen rfl 4
       generalize folwOf (who, is, fs, nx) rs = res at *
       go_wp2_with fail
       refine bodyPost_ret (v := .tuple #[.agg #[Value.string res.1.1.1, Value.string res.1.1.2, Value.slice I2 res.1.2.1.length c2, Value.slice F2 res.1.2.2.1.length d2, Value.int .i64 res.1.2.2.2], .string res.2]) ?_ rfl ?_
       ·simp [results, Tryz.results10, go_sem, r0, r1, r2, r3, r4]
       ·rw [HQ.out]
        exact ⟨I2, c2, F2, d2, rfl, Own.more (own_setN (own_setN (own_setN (own_setN (own_setN o1 (w.heap.size + 1) 0 (Value.string res.1.1.1) hN1) (w.heap.size + 1) 1 (Value.string res.1.1.2) hN1) (w.heap.size + 1) 2 (Value.slice I2 res.1.2.1.length c2) hN1) (w.heap.size + 1) 3 (Value.slice F2 res.1.2.2.1.length d2) hN1) (w.heap.size + 1) 4 (Value.int .i64 res.1.2.2.2) hN1) (by omega), Own.more (own_setN (own_setN (own_setN (own_setN (own_setN o2 (w.heap.size + 1) 0 (Value.string res.1.1.1) hN2) (w.heap.size + 1) 1 (Value.string res.1.1.2) hN2) (w.heap.size + 1) 2 (Value.slice I2 res.1.2.1.length c2) hN2) (w.heap.size + 1) 3 (Value.slice F2 res.1.2.2.1.length d2) hN2) (w.heap.size + 1) 4 (Value.int .i64 res.1.2.2.2) hN2) (by omega), (((((k5.setCell (p := ⟨w.heap.size + 1, 0, none⟩) (by show w.heap.size ≤ w.heap.size + 1; omega) (Value.string res.1.1.1)).setCell (p := ⟨w.heap.size + 1, 1, none⟩) (by show w.heap.size ≤ w.heap.size + 1; omega) (Value.string res.1.1.2)).setCell (p := ⟨w.heap.size + 1, 2, none⟩) (by show w.heap.size ≤ w.heap.size + 1; omega) (Value.slice I2 res.1.2.1.length c2)).setCell (p := ⟨w.heap.size + 1, 3, none⟩) (by show w.heap.size ≤ w.heap.size + 1; omega) (Value.slice F2 res.1.2.2.1.length d2)).setCell (p := ⟨w.heap.size + 1, 4, none⟩) (by show w.heap.size ≤ w.heap.size + 1; omega) (Value.int .i64 res.1.2.2.2))⟩
      ·have HB2 := Lib.hid (HB2.out.trans (if_neg h2))
       have q2b : (wd.toList == ({ data := #[102, 111, 108, 108, 111, 119] } : ByteArray).toList) = false := ba_ne_list h2
       have q2a : (wd.toList == [102, 111, 108, 108, 111, 119]) = false := by have := q2b; rw [show ({ data := #[102, 111, 108, 108, 111, 119] } : ByteArray).toList = [102, 111, 108, 108, 111, 119] by rw [ByteArray.toList_eq]] at this; exact this
       clear h2
       by_cases h3 : wd = wLeave
       ·have HQ := Lib.hid (HB2.out.trans (if_pos h3))
        have q3b : (wd.toList == ({ data := #[108, 101, 97, 118, 101] } : ByteArray).toList) = true := beq_iff_eq.2 (congrArg _ h3)
        have q3a : (wd.toList == [108, 101, 97, 118, 101]) = true := by have := q3b; rw [show ({ data := #[108, 101, 97, 118, 101] } : ByteArray).toList = [108, 101, 97, 118, 101] by rw [ByteArray.toList_eq]] at this; exact this
        clear h3 HB2
        go_wp2_with fail
        refine (changeFansU_any rs who is fs nx I' ci' F' cf' w1.heap.size w4 p14 p24 z14 HB.out hrs).mono ?_
        rintro e w5 ⟨I2, c2, F2, d2, rfl, o1, o2, b5⟩
        have k5 := k4.trans (b5.mono k4.size)
        have oR5 := Own.below oR4 b5
        have hN1 : ∀ b, blk I2 = some b → b ≠ w.heap.size + 1 := fun b hb e => own_ne o1 oR5 (by decide) b hb (by rw [e]; rfl)
        have hN2 : ∀ b, blk F2 = some b → b ≠ w.heap.size + 1 := fun b hb e => own_ne o2 oR5 (by decide) b hb (by rw [e]; rfl)
        have r0 := (show _ = some (Value.string { data := #[] }) from oR5.cell rfl (j := 0) (by omega))
        have rf0 := oR5.frozen rfl 0
        have r1 := (show _ = some (Value.string { data := #[] }) from oR5.cell rfl (j := 1) (by omega))
        have rf1 := oR5.frozen rfl 1
        have r2 := (show _ = some (Value.slice none 0 0) from oR5.cell rfl (j := 2) (by omega))
        have rf2 := oR5.frozen rfl 2
        have r3 := (show _ = some (Value.slice none 0 0) from oR5.cell rfl (j := 3) (by omega))
        have rf3 := oR5.frozen rfl 3
        have r4 := (show _ = some (Value.int .i64 0) from oR5.cell rfl (j := 4) (by omega))
        have rf4 := oR5.frozen rfl 4
        generalize leavOf (who, is, fs, nx) rs = res at *
        go_wp2_with fail
        refine bodyPost_ret (v := .tuple #[.agg #[Value.string res.1.1.1, Value.string res.1.1.2, Value.slice I2 res.1.2.1.length c2, Value.slice F2 res.1.2.2.1.length d2, Value.int .i64 res.1.2.2.2], .string res.2]) ?_ rfl ?_
        ·simp [results, Tryz.results10, go_sem, r0, r1, r2, r3, r4]
        ·rw [HQ.out]
         exact ⟨I2, c2, F2, d2, rfl, Own.more (own_setN (own_setN (own_setN (own_setN (own_setN o1 (w.heap.size + 1) 0 (Value.string res.1.1.1) hN1) (w.heap.size + 1) 1 (Value.string res.1.1.2) hN1) (w.heap.size + 1) 2 (Value.slice I2 res.1.2.1.length c2) hN1) (w.heap.size + 1) 3 (Value.slice F2 res.1.2.2.1.length d2) hN1) (w.heap.size + 1) 4 (Value.int .i64 res.1.2.2.2) hN1) (by omega), Own.more (own_setN (own_setN (own_setN (own_setN (own_setN o2 (w.heap.size + 1) 0 (Value.string res.1.1.1) hN2) (w.heap.size + 1) 1 (Value.string res.1.1.2) hN2) (w.heap.size + 1) 2 (Value.slice I2 res.1.2.1.length c2) hN2) (w.heap.size + 1) 3 (Value.slice F2 res.1.2.2.1.length d2) hN2) (w.heap.size + 1) 4 (Value.int .i64 res.1.2.2.2) hN2) (by omega), (((((k5.setCell (p := ⟨w.heap.size + 1, 0, none⟩) (by show w.heap.size ≤ w.heap.size + 1; omega) (Value.string res.1.1.1)).setCell (p := ⟨w.heap.size + 1, 1, none⟩) (by show w.heap.size ≤ w.heap.size + 1; omega) (Value.string res.1.1.2)).setCell (p := ⟨w.heap.size + 1, 2, none⟩) (by show w.heap.size ≤ w.heap.size + 1; omega) (Value.slice I2 res.1.2.1.length c2)).setCell (p := ⟨w.heap.size + 1, 3, none⟩) (by show w.heap.size ≤ w.heap.size + 1; omega) (Value.slice F2 res.1.2.2.1.length d2)).setCell (p := ⟨w.heap.size + 1, 4, none⟩) (by show w.heap.size ≤ w.heap.size + 1; omega) (Value.int .i64 res.1.2.2.2))⟩
       ·have HB2 := Lib.hid (HB2.out.trans (if_neg h3))
        have q3b : (wd.toList == ({ data := #[108, 101, 97, 118, 101] } : ByteArray).toList) = false := ba_ne_list h3
        have q3a : (wd.toList == [108, 101, 97, 118, 101]) = false := by have := q3b; rw [show ({ data := #[108, 101, 97, 118, 101] } : ByteArray).toList = [108, 101, 97, 118, 101] by rw [ByteArray.toList_eq]] at this; exact this
        clear h3
        have HQ := Lib.hid HB2.out
        have r0 := (show _ = some (Value.string { data := #[] }) from oR4.cell rfl (j := 0) (by omega))
        have rf0 := oR4.frozen rfl 0
        have r1 := (show _ = some (Value.string { data := #[] }) from oR4.cell rfl (j := 1) (by omega))
        have rf1 := oR4.frozen rfl 1
        have r2 := (show _ = some (Value.slice none 0 0) from oR4.cell rfl (j := 2) (by omega))
        have rf2 := oR4.frozen rfl 2
        have r3 := (show _ = some (Value.slice none 0 0) from oR4.cell rfl (j := 3) (by omega))
        have rf3 := oR4.frozen rfl 3
        have r4 := (show _ = some (Value.int .i64 0) from oR4.cell rfl (j := 4) (by omega))
        have rf4 := oR4.frozen rfl 4
        go_wp2_with fail
        refine bodyPost_ret (v := .tuple #[.agg #[Value.string who.1, Value.string who.2, Value.slice I' is.length ci', Value.slice F' fs.length cf', Value.int .i64 nx], .string { data := #[110, 111] }]) ?_ rfl ?_
        ·simp [results, Tryz.results10, go_sem, r0, r1, r2, r3, r4]
        ·rw [HQ.out]
         exact ⟨I', ci', F', cf', rfl, Own.more (own_setN (own_setN (own_setN (own_setN (own_setN p14 (w.heap.size + 1) 0 (Value.string who.1) hNI') (w.heap.size + 1) 1 (Value.string who.2) hNI') (w.heap.size + 1) 2 (Value.slice I' is.length ci') hNI') (w.heap.size + 1) 3 (Value.slice F' fs.length cf') hNI') (w.heap.size + 1) 4 (Value.int .i64 nx) hNI') (by omega), Own.more (own_setN (own_setN (own_setN (own_setN (own_setN p24 (w.heap.size + 1) 0 (Value.string who.1) hNF') (w.heap.size + 1) 1 (Value.string who.2) hNF') (w.heap.size + 1) 2 (Value.slice I' is.length ci') hNF') (w.heap.size + 1) 3 (Value.slice F' fs.length cf') hNF') (w.heap.size + 1) 4 (Value.int .i64 nx) hNF') (by omega), (((((k4.setCell (p := ⟨w.heap.size + 1, 0, none⟩) (by show w.heap.size ≤ w.heap.size + 1; omega) (Value.string who.1)).setCell (p := ⟨w.heap.size + 1, 1, none⟩) (by show w.heap.size ≤ w.heap.size + 1; omega) (Value.string who.2)).setCell (p := ⟨w.heap.size + 1, 2, none⟩) (by show w.heap.size ≤ w.heap.size + 1; omega) (Value.slice I' is.length ci')).setCell (p := ⟨w.heap.size + 1, 3, none⟩) (by show w.heap.size ≤ w.heap.size + 1; omega) (Value.slice F' fs.length cf')).setCell (p := ⟨w.heap.size + 1, 4, none⟩) (by show w.heap.size ≤ w.heap.size + 1; omega) (Value.int .i64 nx))⟩
   ·rw [ctF_eq, decide_eq_false hsp]
    have HQ := Lib.hid (HBL1.out.trans (if_neg hsp))
    clear hsp HBL1
    have r0 := (show _ = some (Value.string { data := #[] }) from oR4.cell rfl (j := 0) (by omega))
    have rf0 := oR4.frozen rfl 0
    have r1 := (show _ = some (Value.string { data := #[] }) from oR4.cell rfl (j := 1) (by omega))
    have rf1 := oR4.frozen rfl 1
    have r2 := (show _ = some (Value.slice none 0 0) from oR4.cell rfl (j := 2) (by omega))
    have rf2 := oR4.frozen rfl 2
    have r3 := (show _ = some (Value.slice none 0 0) from oR4.cell rfl (j := 3) (by omega))
    have rf3 := oR4.frozen rfl 3
    have r4 := (show _ = some (Value.int .i64 0) from oR4.cell rfl (j := 4) (by omega))
    have rf4 := oR4.frozen rfl 4
    go_wp2_with fail
    refine bodyPost_ret (v := .tuple #[.agg #[Value.string who.1, Value.string who.2, Value.slice I' is.length ci', Value.slice F' fs.length cf', Value.int .i64 nx], .string { data := #[110, 111] }]) ?_ rfl ?_
    ·simp [results, Tryz.results10, go_sem, r0, r1, r2, r3, r4]
    ·rw [HQ.out]
     exact ⟨I', ci', F', cf', rfl, Own.more (own_setN (own_setN (own_setN (own_setN (own_setN p14 (w.heap.size + 1) 0 (Value.string who.1) hNI') (w.heap.size + 1) 1 (Value.string who.2) hNI') (w.heap.size + 1) 2 (Value.slice I' is.length ci') hNI') (w.heap.size + 1) 3 (Value.slice F' fs.length cf') hNI') (w.heap.size + 1) 4 (Value.int .i64 nx) hNI') (by omega), Own.more (own_setN (own_setN (own_setN (own_setN (own_setN p24 (w.heap.size + 1) 0 (Value.string who.1) hNF') (w.heap.size + 1) 1 (Value.string who.2) hNF') (w.heap.size + 1) 2 (Value.slice I' is.length ci') hNF') (w.heap.size + 1) 3 (Value.slice F' fs.length cf') hNF') (w.heap.size + 1) 4 (Value.int .i64 nx) hNF') (by omega), (((((k4.setCell (p := ⟨w.heap.size + 1, 0, none⟩) (by show w.heap.size ≤ w.heap.size + 1; omega) (Value.string who.1)).setCell (p := ⟨w.heap.size + 1, 1, none⟩) (by show w.heap.size ≤ w.heap.size + 1; omega) (Value.string who.2)).setCell (p := ⟨w.heap.size + 1, 2, none⟩) (by show w.heap.size ≤ w.heap.size + 1; omega) (Value.slice I' is.length ci')).setCell (p := ⟨w.heap.size + 1, 3, none⟩) (by show w.heap.size ≤ w.heap.size + 1; omega) (Value.slice F' fs.length cf')).setCell (p := ⟨w.heap.size + 1, 4, none⟩) (by show w.heap.size ≤ w.heap.size + 1; omega) (Value.int .i64 nx))⟩
end Go.Proofs.YtfnmlffpnmmcdaaGreatDoor
