import Derived.Test.YtdcppbaahoimfaaHandle
namespace Go.Proofs.Ytdcppbaahoimfaa
open Go.RowKit
theorem copyOfHandle_any (A : Option Addr) (cap B : Nat) (xs : List ElHandle) (w : World) (h : RdE 2 encHandle w B A xs) (hl : xs.length ≤ 1048576) :
    Calls Try.prog 64 #[.slice A xs.length cap] w fun e w' => ∃ T cap', e = .returned (.slice T xs.length cap') ∧ OwnE 2 encHandle 28 w' w.heap.size T cap' xs ∧ Below w.heap.size w w' := by
  go_enter Try.func64, Try.ntmps64
  go_wp2_with (at_builtin; refine wpList_app rfl (.const (.slice none 0 0)) (.tmp 3) _ rfl w.heap.size 28 _ 2 32 Try.underlying56 info_Handle rfl (by omega) none A 0 0 xs.length cap B (cE 2 encHandle ([] : List ElHandle)) (cE 2 encHandle xs) rfl rfl (Own.nil _ _ _ _ _) h (fun _ _ => encHandle_one _ _) (by simp only [maxLen]; omega) (by omega) (Nat.le_refl _) ?_; intro T1 cap1 w1 hown1 hg1)
  go_ret
  exact ⟨T1, cap1, by simp, OwnE.first hown1 rfl, grown_below hg1 (fun b hb => by cases hb) (Nat.le_refl _)⟩
set_option maxHeartbeats 400000 in
theorem withAtHandle_any (A : Option Addr) (cap B : Nat) (xs : List ElHandle) (k : Nat) (x : ElHandle) (w : World) (h : RdE 2 encHandle w B A xs) (hB : B ≤ w.heap.size) (hS : Shp A xs.length cap) (hk : k ≤ xs.length) (hl : xs.length ≤ 1000000) :
    Calls Try.prog 63 #[.slice A xs.length cap, .int .i64 k, .agg #[.string (x.1), .string (x.2)]] w fun e w' => ∃ T cap', e = .returned (.slice T (xs.take k ++ [x] ++ xs.drop k).length cap') ∧ OwnE 2 encHandle 28 w' w.heap.size T cap' (xs.take k ++ [x] ++ xs.drop k) ∧ Below w.heap.size w w' := by
  have hmk := mk_run0 (P := Try.prog) 56 28 _ _ _ Try.underlying56 info_Handle ((xs.length : Int) + 1) (by omega) (by omega) (by omega)
  have hlk : (xs.take k).length = k := by simp; omega
  have hlk1 : (xs.take k ++ [x]).length = k + 1 := by simp; omega
  have hld : (xs.drop k).length = xs.length - k := by simp
  rw [show ((xs.length : Int) + 1).toNat = xs.length + 1 by omega] at hmk
  have hb0 : Below w.heap.size w ((w.alloc (.cells #[.string (x.1), .string (x.2)] 28)).alloc (.cells (madeCells #[.string ByteArray.empty, .string ByteArray.empty] ((xs.length + 1) * 2)) 28)) := ((Below.refl _ _).alloc (Nat.le_refl _) _).alloc (by simp) _
  have hm : Own ((w.alloc (.cells #[.string (x.1), .string (x.2)] 28)).alloc (.cells (madeCells #[.string ByteArray.empty, .string ByteArray.empty] ((xs.length + 1) * 2)) 28)) (w.heap.size + 1) 28 2 (some ⟨w.heap.size + 1, 0, none⟩) 0 (xs.length + 1) (cE 2 encHandle ([] : List ElHandle)) := by
    have := Own.cap0 (w.alloc (.cells #[.string (x.1), .string (x.2)] 28)) 28 2 (xs.length + 1) (w.heap.size + 1) (madeCells #[.string ByteArray.empty, .string ByteArray.empty] ((xs.length + 1) * 2)) (cE 2 encHandle ([] : List ElHandle)) (by simp) (by simp only [maxLen]; omega) (size_madeCells _ _)
    simpa using this
  have hx0 : ∀ j, j < 2 → ((w.alloc (.cells #[.string (x.1), .string (x.2)] 28)).alloc (.cells (madeCells #[.string ByteArray.empty, .string ByteArray.empty] ((xs.length + 1) * 2)) 28)).cell? ⟨w.heap.size, j, none⟩ = some (encHandle x j) := fun j hj => by
    rw [(((Below.refl (w.heap.size + 1) (w.alloc (.cells #[.string (x.1), .string (x.2)] 28))).alloc (by simp) _).cell (p := ⟨w.heap.size, j, none⟩) (by show w.heap.size < w.heap.size + 1; omega)), World.cell?_alloc_at _ _ _ _ rfl]
    rcases (by omega : j = 0 ∨ j = 1) with rfl | rfl <;> rfl
  have HL := Lib.hid hlk; have HL1 := Lib.hid hlk1; have HLD := Lib.hid hld
  clear hlk hlk1 hld
  rcases hS with ⟨rfl, h0, rfl⟩ | ⟨b, off, rfl, hcap, hmx⟩
  · have hx : xs = [] := List.eq_nil_of_length_eq_zero h0
    subst hx
    obtain rfl : k = 0 := by simpa using hk
    have hlk := HL.out
    have hlk1 := HL1.out
    have hld := HLD.out
    have hmk1 : ∀ w : World, (Instr.makeSlice 56 (.int .i64 0) (.int .i64 1)).run Try.prog w = .ok (.slice (some ⟨w.heap.size, 0, none⟩) 0 1) (w.alloc (.cells (madeCells #[.string ByteArray.empty, .string ByteArray.empty] 2) 28)) := fun w => hmk w
    clear hmk h
    replace hb0 : Below w.heap.size w ((w.alloc (.cells #[.string (x.1), .string (x.2)] 28)).alloc (.cells (madeCells #[.string ByteArray.empty, .string ByteArray.empty] 2) 28)) := hb0
    replace hm : Own ((w.alloc (.cells #[.string (x.1), .string (x.2)] 28)).alloc (.cells (madeCells #[.string ByteArray.empty, .string ByteArray.empty] 2) 28)) (w.heap.size + 1) 28 2 (some ⟨w.heap.size + 1, 0, none⟩) 0 1 (cE 2 encHandle ([] : List ElHandle)) := hm
    replace hx0 : ∀ j, j < 2 → ((w.alloc (.cells #[.string (x.1), .string (x.2)] 28)).alloc (.cells (madeCells #[.string ByteArray.empty, .string ByteArray.empty] 2) 28)).cell? ⟨w.heap.size, j, none⟩ = some (encHandle x j) := hx0
    have hr1 : Rd ((w.alloc (.cells #[.string (x.1), .string (x.2)] 28)).alloc (.cells (madeCells #[.string ByteArray.empty, .string ByteArray.empty] 2) 28)) B 2 none 0 (cE 2 encHandle (([] : List ElHandle).take 0)) := fun h => absurd h (by omega)
    have hr2 : RdE 2 encHandle w B none (([] : List ElHandle).drop 0) := RdE.nil
    go_enter Try.func63, Try.ntmps63
    go_wp2_with (first
      | (at_builtin; refine wpList_app rfl (.tmp 12) (.tmp 15) _ rfl (w.heap.size + 1) 28 _ 2 32 Try.underlying56 info_Handle rfl (by omega) (some ⟨w.heap.size + 1, 0, none⟩) none 0 1 0 0 B (cE 2 encHandle ([] : List ElHandle)) (cE 2 encHandle (([] : List ElHandle).take 0)) rfl rfl hm hr1 (fun _ _ => encHandle_one _ _) (by simp only [maxLen]; omega) (by omega) (by simp) ?_; intro T1 cap1 w1 hown1 hg1; have hb1 := grown_below hg1 (fun b hb => (hm.lt hb).1) (by simp); have hown1' := OwnE.first hown1 hlk; have z1 := hb1.size; simp at z1; clear hown1 hg1; have hx1 := fun j hj => (hb1.cell (p := ⟨w.heap.size, j, none⟩) (by show w.heap.size < w.heap.size + 1; omega)).trans (hx0 j hj); have cx0 : w1.cell? ⟨w.heap.size, 0, none⟩ = some (Value.string (x.1)) := hx1 0 (by omega); have cx1 : w1.cell? ⟨w.heap.size, 1, none⟩ = some (Value.string (x.2)) := hx1 1 (by omega))
      | (at_builtin; refine wpList_app rfl (.tmp 17) (.tmp 19) _ rfl (w.heap.size + 1) 28 _ 2 32 Try.underlying56 info_Handle rfl (by omega) T1 (some ⟨w1.heap.size, 0, none⟩) 0 cap1 1 1 (w1.heap.size + 1) (cE 2 encHandle (([] : List ElHandle).take 0)) (encHandle x) (by simp [go_sem]) rfl (Own.below (OwnE.own hown1' hlk) ((Below.refl _ _).alloc (Nat.le_refl _) _)) (rd_elem _ _ _ _ (fun j hj => by rcases (by omega : j = 0 ∨ j = 1) with rfl | rfl <;> rfl)) (fun _ _ => encHandle_one _ _) (by simp only [maxLen]; omega) (by omega) (by simp; omega) ?_; intro T2 cap2 w2 hown2 hg2; have hb2 := ((Below.refl (w.heap.size + 1) w1).alloc (by omega) _).trans (grown_below hg2 (fun b hb => (Own.lt hown1' hb).1) (by simp; omega)); have hown2' := OwnE.push (by omega) hlk hown2; have z2 := hb2.size; clear hown2 hg2)
      | (at_builtin; refine wpList_app rfl (.tmp 21) (.tmp 24) _ rfl (w.heap.size + 1) 28 _ 2 32 Try.underlying56 info_Handle rfl (by omega) T2 none 1 cap2 0 0 B (cE 2 encHandle (([] : List ElHandle).take 0 ++ [x])) (cE 2 encHandle (([] : List ElHandle).drop 0)) rfl (by simp [go_sem]) (OwnE.own hown2' hlk1) (RdE.len ((hr2.below ((hb0.trans (hb1.mono (by omega))).mono hB)).below (hb2.mono (by omega))) hld) (fun _ _ => encHandle_one _ _) (by simp only [maxLen]; omega) (by omega) (by omega) ?_; intro T3 cap3 w3 hown3 hg3))
    go_ret
    have hown3' := OwnE.join (by omega) hlk1 hld hown3
    have hb3 := grown_below hg3 (fun b hb => (Own.lt hown2' hb).1) (by omega)
    have hfin := Own.more (base' := w.heap.size) hown3' (by omega)
    have hbfin := ((hb0.trans (hb1.mono (by omega))).trans (hb2.mono (by omega))).trans (hb3.mono (by omega))
    first
      | exact ⟨T3, cap3, by first | (simp; done) | (simp; omega), hfin, hbfin⟩
      | (rw [List.append_assoc] at hfin; exact ⟨T3, cap3, by first | (simp; done) | (simp; omega), hfin, hbfin⟩)
  · unfold maxLen at hmx
    by_cases hck : cap = k
    · have hlk := HL.out
      have hlk1 := HL1.out
      have hld := HLD.out
      have hck2 := hck.symm
      subst hck2
      have hkl : xs.length ≤ k := by omega
      have hld0 : (xs.drop k).length = 0 := by rw [hld]; omega
      have hr1 : Rd ((w.alloc (.cells #[.string (x.1), .string (x.2)] 28)).alloc (.cells (madeCells #[.string ByteArray.empty, .string ByteArray.empty] ((xs.length + 1) * 2)) 28)) B 2 (some ⟨b, off, none⟩) k (cE 2 encHandle (xs.take k)) := RdE.len ((h.below (hb0.mono hB)).take k) hlk
      have hr2 : RdE 2 encHandle w B (some ⟨b, off, none⟩) (xs.drop k) := fun hp => by rw [hld] at hp; omega
      go_enter Try.func63, Try.ntmps63
      go_wp2_with (first
        | (at_builtin; refine wpList_app rfl (.tmp 12) (.tmp 15) _ rfl (w.heap.size + 1) 28 _ 2 32 Try.underlying56 info_Handle rfl (by omega) (some ⟨w.heap.size + 1, 0, none⟩) (some ⟨b, off, none⟩) 0 (xs.length + 1) k k B (cE 2 encHandle ([] : List ElHandle)) (cE 2 encHandle (xs.take k)) rfl rfl hm hr1 (fun _ _ => encHandle_one _ _) (by simp only [maxLen]; omega) (by omega) (by simp) ?_; intro T1 cap1 w1 hown1 hg1; have hb1 := grown_below hg1 (fun b hb => (hm.lt hb).1) (by simp); have hown1' := OwnE.first hown1 hlk; have z1 := hb1.size; simp at z1; clear hown1 hg1; have hx1 := fun j hj => (hb1.cell (p := ⟨w.heap.size, j, none⟩) (by show w.heap.size < w.heap.size + 1; omega)).trans (hx0 j hj); have cx0 : w1.cell? ⟨w.heap.size, 0, none⟩ = some (Value.string (x.1)) := hx1 0 (by omega); have cx1 : w1.cell? ⟨w.heap.size, 1, none⟩ = some (Value.string (x.2)) := hx1 1 (by omega))
        | (at_builtin; refine wpList_app rfl (.tmp 17) (.tmp 19) _ rfl (w.heap.size + 1) 28 _ 2 32 Try.underlying56 info_Handle rfl (by omega) T1 (some ⟨w1.heap.size, 0, none⟩) k cap1 1 1 (w1.heap.size + 1) (cE 2 encHandle (xs.take k)) (encHandle x) (by simp [go_sem]) rfl (Own.below (OwnE.own hown1' hlk) ((Below.refl _ _).alloc (Nat.le_refl _) _)) (rd_elem _ _ _ _ (fun j hj => by rcases (by omega : j = 0 ∨ j = 1) with rfl | rfl <;> rfl)) (fun _ _ => encHandle_one _ _) (by simp only [maxLen]; omega) (by omega) (by simp; omega) ?_; intro T2 cap2 w2 hown2 hg2; have hb2 := ((Below.refl (w.heap.size + 1) w1).alloc (by omega) _).trans (grown_below hg2 (fun b hb => (Own.lt hown1' hb).1) (by simp; omega)); have hown2' := OwnE.push (by omega) hlk hown2; have z2 := hb2.size; clear hown2 hg2)
        | (at_builtin; refine wpList_app rfl (.tmp 21) (.tmp 24) _ rfl (w.heap.size + 1) 28 _ 2 32 Try.underlying56 info_Handle rfl (by omega) T2 (some ⟨b, off, none⟩) (k + 1) cap2 0 0 B (cE 2 encHandle (xs.take k ++ [x])) (cE 2 encHandle (xs.drop k)) rfl (by simp [go_sem]) (OwnE.own hown2' hlk1) (RdE.len ((hr2.below ((hb0.trans (hb1.mono (by omega))).mono hB)).below (hb2.mono (by omega))) hld0) (fun _ _ => encHandle_one _ _) (by simp only [maxLen]; omega) (by omega) (by omega) ?_; intro T3 cap3 w3 hown3 hg3))
      go_ret
      have hown3' := OwnE.join (by omega) hlk1 hld0 hown3
      have hb3 := grown_below hg3 (fun b hb => (Own.lt hown2' hb).1) (by omega)
      have hfin := Own.more (base' := w.heap.size) hown3' (by omega)
      have hbfin := ((hb0.trans (hb1.mono (by omega))).trans (hb2.mono (by omega))).trans (hb3.mono (by omega))
      first
        | exact ⟨T3, cap3, by first | (simp; done) | (simp; omega), hfin, hbfin⟩
        | (rw [List.append_assoc] at hfin; exact ⟨T3, cap3, by first | (simp; done) | (simp; omega), hfin, hbfin⟩)
    · have hlk := HL.out
      have hlk1 := HL1.out
      have hld := HLD.out
      have hr1 : Rd ((w.alloc (.cells #[.string (x.1), .string (x.2)] 28)).alloc (.cells (madeCells #[.string ByteArray.empty, .string ByteArray.empty] ((xs.length + 1) * 2)) 28)) B 2 (some ⟨b, off, none⟩) k (cE 2 encHandle (xs.take k)) := RdE.len ((h.below (hb0.mono hB)).take k) hlk
      have hr2 : RdE 2 encHandle w B (some ⟨b, off + k * 2, none⟩) (xs.drop k) := RdE.drop h
      go_enter Try.func63, Try.ntmps63
      go_wp2_with (first
        | (at_builtin; refine wpList_app rfl (.tmp 12) (.tmp 15) _ rfl (w.heap.size + 1) 28 _ 2 32 Try.underlying56 info_Handle rfl (by omega) (some ⟨w.heap.size + 1, 0, none⟩) (some ⟨b, off, none⟩) 0 (xs.length + 1) k cap B (cE 2 encHandle ([] : List ElHandle)) (cE 2 encHandle (xs.take k)) rfl rfl hm hr1 (fun _ _ => encHandle_one _ _) (by simp only [maxLen]; omega) (by omega) (by simp) ?_; intro T1 cap1 w1 hown1 hg1; have hb1 := grown_below hg1 (fun b hb => (hm.lt hb).1) (by simp); have hown1' := OwnE.first hown1 hlk; have z1 := hb1.size; simp at z1; clear hown1 hg1; have hx1 := fun j hj => (hb1.cell (p := ⟨w.heap.size, j, none⟩) (by show w.heap.size < w.heap.size + 1; omega)).trans (hx0 j hj); have cx0 : w1.cell? ⟨w.heap.size, 0, none⟩ = some (Value.string (x.1)) := hx1 0 (by omega); have cx1 : w1.cell? ⟨w.heap.size, 1, none⟩ = some (Value.string (x.2)) := hx1 1 (by omega))
        | (at_builtin; refine wpList_app rfl (.tmp 17) (.tmp 19) _ rfl (w.heap.size + 1) 28 _ 2 32 Try.underlying56 info_Handle rfl (by omega) T1 (some ⟨w1.heap.size, 0, none⟩) k cap1 1 1 (w1.heap.size + 1) (cE 2 encHandle (xs.take k)) (encHandle x) (by simp [go_sem]) rfl (Own.below (OwnE.own hown1' hlk) ((Below.refl _ _).alloc (Nat.le_refl _) _)) (rd_elem _ _ _ _ (fun j hj => by rcases (by omega : j = 0 ∨ j = 1) with rfl | rfl <;> rfl)) (fun _ _ => encHandle_one _ _) (by simp only [maxLen]; omega) (by omega) (by simp; omega) ?_; intro T2 cap2 w2 hown2 hg2; have hb2 := ((Below.refl (w.heap.size + 1) w1).alloc (by omega) _).trans (grown_below hg2 (fun b hb => (Own.lt hown1' hb).1) (by simp; omega)); have hown2' := OwnE.push (by omega) hlk hown2; have z2 := hb2.size; clear hown2 hg2)
        | (at_builtin; refine wpList_app rfl (.tmp 21) (.tmp 24) _ rfl (w.heap.size + 1) 28 _ 2 32 Try.underlying56 info_Handle rfl (by omega) T2 (some ⟨b, off + k * 2, none⟩) (k + 1) cap2 (xs.length - k) (cap - k) B (cE 2 encHandle (xs.take k ++ [x])) (cE 2 encHandle (xs.drop k)) rfl (by simp [go_sem]) (OwnE.own hown2' hlk1) (RdE.len ((hr2.below ((hb0.trans (hb1.mono (by omega))).mono hB)).below (hb2.mono (by omega))) hld) (fun _ _ => encHandle_one _ _) (by simp only [maxLen]; omega) (by omega) (by omega) ?_; intro T3 cap3 w3 hown3 hg3))
      go_ret
      have hown3' := OwnE.join (by omega) hlk1 hld hown3
      have hb3 := grown_below hg3 (fun b hb => (Own.lt hown2' hb).1) (by omega)
      have hfin := Own.more (base' := w.heap.size) hown3' (by omega)
      have hbfin := ((hb0.trans (hb1.mono (by omega))).trans (hb2.mono (by omega))).trans (hb3.mono (by omega))
      first
        | exact ⟨T3, cap3, by first | (simp; done) | (simp; omega), hfin, hbfin⟩
        | (rw [List.append_assoc] at hfin; exact ⟨T3, cap3, by first | (simp; done) | (simp; omega), hfin, hbfin⟩)
end Go.Proofs.Ytdcppbaahoimfaa
