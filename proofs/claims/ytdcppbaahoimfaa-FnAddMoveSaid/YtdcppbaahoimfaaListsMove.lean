import Derived.Test.YtdcppbaahoimfaaMove
namespace Go.Proofs.Ytdcppbaahoimfaa
open Go.RowKit
theorem copyOfMove_any (A : Option Addr) (cap B : Nat) (xs : List ElMove) (w : World) (h : RdE 4 encMove w B A xs) (hl : xs.length ≤ 1048576) :
    Calls Try.prog 52 #[.slice A xs.length cap] w fun e w' => ∃ T cap', e = .returned (.slice T xs.length cap') ∧ OwnE 4 encMove 30 w' w.heap.size T cap' xs ∧ Below w.heap.size w w' := by
  go_enter Try.func52, Try.ntmps52
  go_wp2_with (at_builtin; refine wpList_app rfl (.const (.slice none 0 0)) (.tmp 3) _ rfl w.heap.size 30 _ 4 64 Try.underlying23 info_Move rfl (by omega) none A 0 0 xs.length cap B (cE 4 encMove ([] : List ElMove)) (cE 4 encMove xs) rfl rfl (Own.nil _ _ _ _ _) h (fun _ _ => encMove_one _ _) (by simp only [maxLen]; omega) (by omega) (Nat.le_refl _) ?_; intro T1 cap1 w1 hown1 hg1)
  go_ret
  exact ⟨T1, cap1, by simp, OwnE.first hown1 rfl, grown_below hg1 (fun b hb => by cases hb) (Nat.le_refl _)⟩
set_option maxHeartbeats 400000 in
theorem withAtMove_any (A : Option Addr) (cap B : Nat) (xs : List ElMove) (k : Nat) (x : ElMove) (w : World) (h : RdE 4 encMove w B A xs) (hB : B ≤ w.heap.size) (hS : Shp A xs.length cap) (hk : k ≤ xs.length) (hl : xs.length ≤ 1000000) :
    Calls Try.prog 51 #[.slice A xs.length cap, .int .i64 k, .agg #[.string (x.1.1), .string (x.1.2), .string (x.2.1), .string (x.2.2)]] w fun e w' => ∃ T cap', e = .returned (.slice T (xs.take k ++ [x] ++ xs.drop k).length cap') ∧ OwnE 4 encMove 30 w' w.heap.size T cap' (xs.take k ++ [x] ++ xs.drop k) ∧ Below w.heap.size w w' := by
  have hmk := mk_run0 (P := Try.prog) 23 30 _ _ _ Try.underlying23 info_Move ((xs.length : Int) + 1) (by omega) (by omega) (by omega)
  have hlk : (xs.take k).length = k := by simp; omega
  have hlk1 : (xs.take k ++ [x]).length = k + 1 := by simp; omega
  have hld : (xs.drop k).length = xs.length - k := by simp
  rw [show ((xs.length : Int) + 1).toNat = xs.length + 1 by omega] at hmk
  have hb0 : Below w.heap.size w ((w.alloc (.cells #[.string (x.1.1), .string (x.1.2), .string (x.2.1), .string (x.2.2)] 30)).alloc (.cells (madeCells #[.string ByteArray.empty, .string ByteArray.empty, .string ByteArray.empty, .string ByteArray.empty] ((xs.length + 1) * 4)) 30)) := ((Below.refl _ _).alloc (Nat.le_refl _) _).alloc (by simp) _
  have hm : Own ((w.alloc (.cells #[.string (x.1.1), .string (x.1.2), .string (x.2.1), .string (x.2.2)] 30)).alloc (.cells (madeCells #[.string ByteArray.empty, .string ByteArray.empty, .string ByteArray.empty, .string ByteArray.empty] ((xs.length + 1) * 4)) 30)) (w.heap.size + 1) 30 4 (some ⟨w.heap.size + 1, 0, none⟩) 0 (xs.length + 1) (cE 4 encMove ([] : List ElMove)) := by
    have := Own.cap0 (w.alloc (.cells #[.string (x.1.1), .string (x.1.2), .string (x.2.1), .string (x.2.2)] 30)) 30 4 (xs.length + 1) (w.heap.size + 1) (madeCells #[.string ByteArray.empty, .string ByteArray.empty, .string ByteArray.empty, .string ByteArray.empty] ((xs.length + 1) * 4)) (cE 4 encMove ([] : List ElMove)) (by simp) (by simp only [maxLen]; omega) (size_madeCells _ _)
    simpa using this
  have hx0 : ∀ j, j < 4 → ((w.alloc (.cells #[.string (x.1.1), .string (x.1.2), .string (x.2.1), .string (x.2.2)] 30)).alloc (.cells (madeCells #[.string ByteArray.empty, .string ByteArray.empty, .string ByteArray.empty, .string ByteArray.empty] ((xs.length + 1) * 4)) 30)).cell? ⟨w.heap.size, j, none⟩ = some (encMove x j) := fun j hj => by
    rw [(((Below.refl (w.heap.size + 1) (w.alloc (.cells #[.string (x.1.1), .string (x.1.2), .string (x.2.1), .string (x.2.2)] 30))).alloc (by simp) _).cell (p := ⟨w.heap.size, j, none⟩) (by show w.heap.size < w.heap.size + 1; omega)), World.cell?_alloc_at _ _ _ _ rfl]
    rcases (by omega : j = 0 ∨ j = 1 ∨ j = 2 ∨ j = 3) with rfl | rfl | rfl | rfl <;> rfl
  have HL := Lib.hid hlk; have HL1 := Lib.hid hlk1; have HLD := Lib.hid hld
  clear hlk hlk1 hld
  rcases hS with ⟨rfl, h0, rfl⟩ | ⟨b, off, rfl, hcap, hmx⟩
  · have hx : xs = [] := List.eq_nil_of_length_eq_zero h0
    subst hx
    obtain rfl : k = 0 := by simpa using hk
    have hlk := HL.out
    have hlk1 := HL1.out
    have hld := HLD.out
    have hmk1 : ∀ w : World, (Instr.makeSlice 23 (.int .i64 0) (.int .i64 1)).run Try.prog w = .ok (.slice (some ⟨w.heap.size, 0, none⟩) 0 1) (w.alloc (.cells (madeCells #[.string ByteArray.empty, .string ByteArray.empty, .string ByteArray.empty, .string ByteArray.empty] 4) 30)) := fun w => hmk w
    clear hmk h
    replace hb0 : Below w.heap.size w ((w.alloc (.cells #[.string (x.1.1), .string (x.1.2), .string (x.2.1), .string (x.2.2)] 30)).alloc (.cells (madeCells #[.string ByteArray.empty, .string ByteArray.empty, .string ByteArray.empty, .string ByteArray.empty] 4) 30)) := hb0
    replace hm : Own ((w.alloc (.cells #[.string (x.1.1), .string (x.1.2), .string (x.2.1), .string (x.2.2)] 30)).alloc (.cells (madeCells #[.string ByteArray.empty, .string ByteArray.empty, .string ByteArray.empty, .string ByteArray.empty] 4) 30)) (w.heap.size + 1) 30 4 (some ⟨w.heap.size + 1, 0, none⟩) 0 1 (cE 4 encMove ([] : List ElMove)) := hm
    replace hx0 : ∀ j, j < 4 → ((w.alloc (.cells #[.string (x.1.1), .string (x.1.2), .string (x.2.1), .string (x.2.2)] 30)).alloc (.cells (madeCells #[.string ByteArray.empty, .string ByteArray.empty, .string ByteArray.empty, .string ByteArray.empty] 4) 30)).cell? ⟨w.heap.size, j, none⟩ = some (encMove x j) := hx0
    have hr1 : Rd ((w.alloc (.cells #[.string (x.1.1), .string (x.1.2), .string (x.2.1), .string (x.2.2)] 30)).alloc (.cells (madeCells #[.string ByteArray.empty, .string ByteArray.empty, .string ByteArray.empty, .string ByteArray.empty] 4) 30)) B 4 none 0 (cE 4 encMove (([] : List ElMove).take 0)) := fun h => absurd h (by omega)
    have hr2 : RdE 4 encMove w B none (([] : List ElMove).drop 0) := RdE.nil
    go_enter Try.func51, Try.ntmps51
    go_wp2_with (first
      | (at_builtin; refine wpList_app rfl (.tmp 12) (.tmp 15) _ rfl (w.heap.size + 1) 30 _ 4 64 Try.underlying23 info_Move rfl (by omega) (some ⟨w.heap.size + 1, 0, none⟩) none 0 1 0 0 B (cE 4 encMove ([] : List ElMove)) (cE 4 encMove (([] : List ElMove).take 0)) rfl rfl hm hr1 (fun _ _ => encMove_one _ _) (by simp only [maxLen]; omega) (by omega) (by simp) ?_; intro T1 cap1 w1 hown1 hg1; have hb1 := grown_below hg1 (fun b hb => (hm.lt hb).1) (by simp); have hown1' := OwnE.first hown1 hlk; have z1 := hb1.size; simp at z1; clear hown1 hg1; have hx1 := fun j hj => (hb1.cell (p := ⟨w.heap.size, j, none⟩) (by show w.heap.size < w.heap.size + 1; omega)).trans (hx0 j hj); have cx0 : w1.cell? ⟨w.heap.size, 0, none⟩ = some (Value.string (x.1.1)) := hx1 0 (by omega); have cx1 : w1.cell? ⟨w.heap.size, 1, none⟩ = some (Value.string (x.1.2)) := hx1 1 (by omega); have cx2 : w1.cell? ⟨w.heap.size, 2, none⟩ = some (Value.string (x.2.1)) := hx1 2 (by omega); have cx3 : w1.cell? ⟨w.heap.size, 3, none⟩ = some (Value.string (x.2.2)) := hx1 3 (by omega))
      | (at_builtin; refine wpList_app rfl (.tmp 17) (.tmp 19) _ rfl (w.heap.size + 1) 30 _ 4 64 Try.underlying23 info_Move rfl (by omega) T1 (some ⟨w1.heap.size, 0, none⟩) 0 cap1 1 1 (w1.heap.size + 1) (cE 4 encMove (([] : List ElMove).take 0)) (encMove x) (by simp [go_sem]) rfl (Own.below (OwnE.own hown1' hlk) ((Below.refl _ _).alloc (Nat.le_refl _) _)) (rd_elem _ _ _ _ (fun j hj => by rcases (by omega : j = 0 ∨ j = 1 ∨ j = 2 ∨ j = 3) with rfl | rfl | rfl | rfl <;> rfl)) (fun _ _ => encMove_one _ _) (by simp only [maxLen]; omega) (by omega) (by simp; omega) ?_; intro T2 cap2 w2 hown2 hg2; have hb2 := ((Below.refl (w.heap.size + 1) w1).alloc (by omega) _).trans (grown_below hg2 (fun b hb => (Own.lt hown1' hb).1) (by simp; omega)); have hown2' := OwnE.push (by omega) hlk hown2; have z2 := hb2.size; clear hown2 hg2)
      | (at_builtin; refine wpList_app rfl (.tmp 21) (.tmp 24) _ rfl (w.heap.size + 1) 30 _ 4 64 Try.underlying23 info_Move rfl (by omega) T2 none 1 cap2 0 0 B (cE 4 encMove (([] : List ElMove).take 0 ++ [x])) (cE 4 encMove (([] : List ElMove).drop 0)) rfl (by simp [go_sem]) (OwnE.own hown2' hlk1) (RdE.len ((hr2.below ((hb0.trans (hb1.mono (by omega))).mono hB)).below (hb2.mono (by omega))) hld) (fun _ _ => encMove_one _ _) (by simp only [maxLen]; omega) (by omega) (by omega) ?_; intro T3 cap3 w3 hown3 hg3))
    go_ret
    have hown3' := OwnE.join (by omega) hlk1 hld hown3
    have hb3 := grown_below hg3 (fun b hb => (Own.lt hown2' hb).1) (by omega)
    have hfin := Own.more (base' := w.heap.size) hown3' (by omega)
    have hbfin := ((hb0.trans (hb1.mono (by omega))).trans (hb2.mono (by omega))).trans (hb3.mono (by omega))
    first
      | exact ⟨T3, cap3, by first | (simp; done) | (simp; omega), hfin, hbfin⟩
      | (rw [List.append_assoc] at hfin; exact ⟨T3, cap3, by first | (simp; done) | (simp; omega), hfin, hbfin⟩)
  · unfold maxLen at hmx
    by_cases hck : cap = k
    · have hlk := HL.out
      have hlk1 := HL1.out
      have hld := HLD.out
      have hck2 := hck.symm
      subst hck2
      have hkl : xs.length ≤ k := by omega
      have hld0 : (xs.drop k).length = 0 := by rw [hld]; omega
      have hr1 : Rd ((w.alloc (.cells #[.string (x.1.1), .string (x.1.2), .string (x.2.1), .string (x.2.2)] 30)).alloc (.cells (madeCells #[.string ByteArray.empty, .string ByteArray.empty, .string ByteArray.empty, .string ByteArray.empty] ((xs.length + 1) * 4)) 30)) B 4 (some ⟨b, off, none⟩) k (cE 4 encMove (xs.take k)) := RdE.len ((h.below (hb0.mono hB)).take k) hlk
      have hr2 : RdE 4 encMove w B (some ⟨b, off, none⟩) (xs.drop k) := fun hp => by rw [hld] at hp; omega
      go_enter Try.func51, Try.ntmps51
      go_wp2_with (first
        | (at_builtin; refine wpList_app rfl (.tmp 12) (.tmp 15) _ rfl (w.heap.size + 1) 30 _ 4 64 Try.underlying23 info_Move rfl (by omega) (some ⟨w.heap.size + 1, 0, none⟩) (some ⟨b, off, none⟩) 0 (xs.length + 1) k k B (cE 4 encMove ([] : List ElMove)) (cE 4 encMove (xs.take k)) rfl rfl hm hr1 (fun _ _ => encMove_one _ _) (by simp only [maxLen]; omega) (by omega) (by simp) ?_; intro T1 cap1 w1 hown1 hg1; have hb1 := grown_below hg1 (fun b hb => (hm.lt hb).1) (by simp); have hown1' := OwnE.first hown1 hlk; have z1 := hb1.size; simp at z1; clear hown1 hg1; have hx1 := fun j hj => (hb1.cell (p := ⟨w.heap.size, j, none⟩) (by show w.heap.size < w.heap.size + 1; omega)).trans (hx0 j hj); have cx0 : w1.cell? ⟨w.heap.size, 0, none⟩ = some (Value.string (x.1.1)) := hx1 0 (by omega); have cx1 : w1.cell? ⟨w.heap.size, 1, none⟩ = some (Value.string (x.1.2)) := hx1 1 (by omega); have cx2 : w1.cell? ⟨w.heap.size, 2, none⟩ = some (Value.string (x.2.1)) := hx1 2 (by omega); have cx3 : w1.cell? ⟨w.heap.size, 3, none⟩ = some (Value.string (x.2.2)) := hx1 3 (by omega))
        | (at_builtin; refine wpList_app rfl (.tmp 17) (.tmp 19) _ rfl (w.heap.size + 1) 30 _ 4 64 Try.underlying23 info_Move rfl (by omega) T1 (some ⟨w1.heap.size, 0, none⟩) k cap1 1 1 (w1.heap.size + 1) (cE 4 encMove (xs.take k)) (encMove x) (by simp [go_sem]) rfl (Own.below (OwnE.own hown1' hlk) ((Below.refl _ _).alloc (Nat.le_refl _) _)) (rd_elem _ _ _ _ (fun j hj => by rcases (by omega : j = 0 ∨ j = 1 ∨ j = 2 ∨ j = 3) with rfl | rfl | rfl | rfl <;> rfl)) (fun _ _ => encMove_one _ _) (by simp only [maxLen]; omega) (by omega) (by simp; omega) ?_; intro T2 cap2 w2 hown2 hg2; have hb2 := ((Below.refl (w.heap.size + 1) w1).alloc (by omega) _).trans (grown_below hg2 (fun b hb => (Own.lt hown1' hb).1) (by simp; omega)); have hown2' := OwnE.push (by omega) hlk hown2; have z2 := hb2.size; clear hown2 hg2)
        | (at_builtin; refine wpList_app rfl (.tmp 21) (.tmp 24) _ rfl (w.heap.size + 1) 30 _ 4 64 Try.underlying23 info_Move rfl (by omega) T2 (some ⟨b, off, none⟩) (k + 1) cap2 0 0 B (cE 4 encMove (xs.take k ++ [x])) (cE 4 encMove (xs.drop k)) rfl (by simp [go_sem]) (OwnE.own hown2' hlk1) (RdE.len ((hr2.below ((hb0.trans (hb1.mono (by omega))).mono hB)).below (hb2.mono (by omega))) hld0) (fun _ _ => encMove_one _ _) (by simp only [maxLen]; omega) (by omega) (by omega) ?_; intro T3 cap3 w3 hown3 hg3))
      go_ret
      have hown3' := OwnE.join (by omega) hlk1 hld0 hown3
      have hb3 := grown_below hg3 (fun b hb => (Own.lt hown2' hb).1) (by omega)
      have hfin := Own.more (base' := w.heap.size) hown3' (by omega)
      have hbfin := ((hb0.trans (hb1.mono (by omega))).trans (hb2.mono (by omega))).trans (hb3.mono (by omega))
      first
        | exact ⟨T3, cap3, by first | (simp; done) | (simp; omega), hfin, hbfin⟩
        | (rw [List.append_assoc] at hfin; exact ⟨T3, cap3, by first | (simp; done) | (simp; omega), hfin, hbfin⟩)
    · have hlk := HL.out
      have hlk1 := HL1.out
      have hld := HLD.out
      have hr1 : Rd ((w.alloc (.cells #[.string (x.1.1), .string (x.1.2), .string (x.2.1), .string (x.2.2)] 30)).alloc (.cells (madeCells #[.string ByteArray.empty, .string ByteArray.empty, .string ByteArray.empty, .string ByteArray.empty] ((xs.length + 1) * 4)) 30)) B 4 (some ⟨b, off, none⟩) k (cE 4 encMove (xs.take k)) := RdE.len ((h.below (hb0.mono hB)).take k) hlk
      have hr2 : RdE 4 encMove w B (some ⟨b, off + k * 4, none⟩) (xs.drop k) := RdE.drop h
      go_enter Try.func51, Try.ntmps51
      go_wp2_with (first
        | (at_builtin; refine wpList_app rfl (.tmp 12) (.tmp 15) _ rfl (w.heap.size + 1) 30 _ 4 64 Try.underlying23 info_Move rfl (by omega) (some ⟨w.heap.size + 1, 0, none⟩) (some ⟨b, off, none⟩) 0 (xs.length + 1) k cap B (cE 4 encMove ([] : List ElMove)) (cE 4 encMove (xs.take k)) rfl rfl hm hr1 (fun _ _ => encMove_one _ _) (by simp only [maxLen]; omega) (by omega) (by simp) ?_; intro T1 cap1 w1 hown1 hg1; have hb1 := grown_below hg1 (fun b hb => (hm.lt hb).1) (by simp); have hown1' := OwnE.first hown1 hlk; have z1 := hb1.size; simp at z1; clear hown1 hg1; have hx1 := fun j hj => (hb1.cell (p := ⟨w.heap.size, j, none⟩) (by show w.heap.size < w.heap.size + 1; omega)).trans (hx0 j hj); have cx0 : w1.cell? ⟨w.heap.size, 0, none⟩ = some (Value.string (x.1.1)) := hx1 0 (by omega); have cx1 : w1.cell? ⟨w.heap.size, 1, none⟩ = some (Value.string (x.1.2)) := hx1 1 (by omega); have cx2 : w1.cell? ⟨w.heap.size, 2, none⟩ = some (Value.string (x.2.1)) := hx1 2 (by omega); have cx3 : w1.cell? ⟨w.heap.size, 3, none⟩ = some (Value.string (x.2.2)) := hx1 3 (by omega))
        | (at_builtin; refine wpList_app rfl (.tmp 17) (.tmp 19) _ rfl (w.heap.size + 1) 30 _ 4 64 Try.underlying23 info_Move rfl (by omega) T1 (some ⟨w1.heap.size, 0, none⟩) k cap1 1 1 (w1.heap.size + 1) (cE 4 encMove (xs.take k)) (encMove x) (by simp [go_sem]) rfl (Own.below (OwnE.own hown1' hlk) ((Below.refl _ _).alloc (Nat.le_refl _) _)) (rd_elem _ _ _ _ (fun j hj => by rcases (by omega : j = 0 ∨ j = 1 ∨ j = 2 ∨ j = 3) with rfl | rfl | rfl | rfl <;> rfl)) (fun _ _ => encMove_one _ _) (by simp only [maxLen]; omega) (by omega) (by simp; omega) ?_; intro T2 cap2 w2 hown2 hg2; have hb2 := ((Below.refl (w.heap.size + 1) w1).alloc (by omega) _).trans (grown_below hg2 (fun b hb => (Own.lt hown1' hb).1) (by simp; omega)); have hown2' := OwnE.push (by omega) hlk hown2; have z2 := hb2.size; clear hown2 hg2)
        | (at_builtin; refine wpList_app rfl (.tmp 21) (.tmp 24) _ rfl (w.heap.size + 1) 30 _ 4 64 Try.underlying23 info_Move rfl (by omega) T2 (some ⟨b, off + k * 4, none⟩) (k + 1) cap2 (xs.length - k) (cap - k) B (cE 4 encMove (xs.take k ++ [x])) (cE 4 encMove (xs.drop k)) rfl (by simp [go_sem]) (OwnE.own hown2' hlk1) (RdE.len ((hr2.below ((hb0.trans (hb1.mono (by omega))).mono hB)).below (hb2.mono (by omega))) hld) (fun _ _ => encMove_one _ _) (by simp only [maxLen]; omega) (by omega) (by omega) ?_; intro T3 cap3 w3 hown3 hg3))
      go_ret
      have hown3' := OwnE.join (by omega) hlk1 hld hown3
      have hb3 := grown_below hg3 (fun b hb => (Own.lt hown2' hb).1) (by omega)
      have hfin := Own.more (base' := w.heap.size) hown3' (by omega)
      have hbfin := ((hb0.trans (hb1.mono (by omega))).trans (hb2.mono (by omega))).trans (hb3.mono (by omega))
      first
        | exact ⟨T3, cap3, by first | (simp; done) | (simp; omega), hfin, hbfin⟩
        | (rw [List.append_assoc] at hfin; exact ⟨T3, cap3, by first | (simp; done) | (simp; omega), hfin, hbfin⟩)
end Go.Proofs.Ytdcppbaahoimfaa
