import Derived.Test.YtnaiopbealnpmaaThread
namespace Go.Proofs.Ytnaiopbealnpmaa
open Go.RowKit PP

theorem specDropPost_no (A : Option Addr) (cap : Nat) (xs : List Int) (n : Int) (w : World) (B : Nat) (h : RdI w B A xs) (_hB : B ≤ w.heap.size) (hl : xs.length ≤ 140737488351232) (hno : pvB xs = false ∨ inB n 0 ((xs.length : Int) - 1) = false) :
    Calls Try.prog 27 #[.slice A xs.length cap, .int .i64 n] w fun e w' => ∃ T' cap', e = .returned (.tuple #[.slice T' (dropOf xs n).length cap', .bool (dropOk xs n)]) ∧ OwnI w' w.heap.size T' cap' (dropOf xs n) ∧ Below w.heap.size w w' := by
  by_cases hv : pvB xs = true
  · have hn' : inB n 0 ((xs.length : Int) - 1) = false := by
      rcases hno with h1 | h1
      · rw [h1] at hv; cases hv
      · exact h1
    have HR := Lib.hid (dropOf_no (.inr (inB_out hn')) : dropOf xs n = [] ∧ dropOk xs n = false)
    clear hno
    go_enter Try.func27, Try.ntmps27
    go_wp2_with (first
        | (go_at_call 13; refine (specPostsValid_any _ _ _ xs _ (h.alloc (by omega) _) hl).mono ?_; rintro e w' ⟨rfl, rfl⟩)
        | (go_at_call 34; refine (l1In_any _ _ _ _).mono ?_; rintro e w' ⟨rfl, rfl⟩))
    go_ret2
    rw [HR.out.1, HR.out.2]
    exact ⟨_, _, rfl, Own.lit _ _ 1 0 _ _ (Nat.zero_le _) rfl, (Below.refl _ _).alloc (Nat.le_refl _) _⟩
  · have hv' : pvB xs = false := by simpa using hv
    have HR := Lib.hid (dropOf_no (.inl hv') : dropOf xs n = [] ∧ dropOk xs n = false)
    clear hv hno
    go_enter Try.func27, Try.ntmps27
    go_wp2_with (go_at_call 13; refine (specPostsValid_any _ _ _ xs _ (h.alloc (by omega) _) hl).mono ?_; rintro e w' ⟨rfl, rfl⟩)
    go_ret2
    rw [HR.out.1, HR.out.2]
    exact ⟨_, _, rfl, Own.lit _ _ 1 0 _ _ (Nat.zero_le _) rfl, (Below.refl _ _).alloc (Nat.le_refl _) _⟩
theorem specDropPost_yes (A : Option Addr) (cap : Nat) (xs : List Int) (n : Nat) (w : World) (B : Nat) (h : RdI w B A xs) (hB : B ≤ w.heap.size) (hv : pvB xs = true) (hn : n < xs.length) :
    Calls Try.prog 27 #[.slice A xs.length cap, .int .i64 n] w fun e w' => ∃ T' cap', e = .returned (.tuple #[.slice T' (dropTo xs n xs.length).length cap', .bool true]) ∧ OwnI w' w.heap.size T' cap' (dropTo xs n xs.length) ∧ Below w.heap.size w w' := by
  have HV := Lib.hid (Pv.of hv)
  have h16 := HV.out.1
  have hin : inB n 0 ((xs.length : Int) - 1) = true := inB_true (by omega) (by omega)
  have hnn := HV.out.hi hn
  have hnl := HV.out.lo hn
  go_enter Try.func27, Try.ntmps27
  go_wp2_with (first
        | (go_at_call 13; refine (specPostsValid_any _ _ _ xs _ (h.alloc (by omega) _) (by omega)).mono ?_; rintro e w' ⟨rfl, rfl⟩)
        | (go_at_call 34; refine (l1In_any _ _ _ _).mono ?_; rintro e w' ⟨rfl, rfl⟩))
  go_loopw [6, 7] (fun v i wr => ∃ (m : Nat) (T' : Option Addr) (cap' : Nat) (cur : List Int), m ≤ xs.length ∧ i = .int .i64 m ∧ v = .slice T' cur.length cap' ∧ Hid (cur = dropTo xs n m) ∧ cur.length ≤ 16 ∧ OwnI wr w.heap.size T' cap' cur ∧ Below w.heap.size w wr) (fun _ i _ => xs.length - (intOf i).toNat)
  case atStart => exact ⟨0, some ⟨w.heap.size, 0, none⟩, 0, [], by omega, rfl, rfl, Lib.hid rfl, by simp, Own.lit _ _ 1 0 _ _ (Nat.zero_le _) rfl, (Below.refl _ _).alloc (Nat.le_refl _) _⟩
  case round =>
    obtain ⟨m, T', cap', cur, hm, rfl, rfl, hcur, hc16, hownr, hbr⟩ := hrel
    by_cases hlt : m < xs.length
    · have hr' := h.below (hbr.mono hB)
      obtain ⟨b, off, rfl, hb, hc⟩ := hr'.at_ (by omega)
      have hck := hc m hlt
      have hcn := hc n hn
      have hmh := HV.out.hi hlt
      have hml := HV.out.lo hlt
      have hsz := hbr.size
      clear hc hr' h
      by_cases hmn : m = n
      · subst hmn
        have q1 : ((m : Int) == (m : Int)) = true := by simp
        have q2 : ((m : Int) != (m : Int)) = false := by simp
        have q3 : (at_ xs m == (m : Int)) = false := by simp; omega
        have q4 : decide ((m : Int) < at_ xs m) = false := by simp; omega
        go_wp2_with fail
        go_roundw
        case rel => exact ⟨m + 1, T', cap', cur, by omega, by go_num, rfl, Lib.hid (by rw [dropTo_skip]; exact hcur.out), hc16, hownr, hbr⟩
        case measure => simp [intOf]; omega
      · have q1 : ((m : Int) == (n : Int)) = false := by simp; omega
        have q2 : ((m : Int) != (n : Int)) = true := by simp; omega
        have hcm : cur.length ≤ m := by rw [hcur.out]; exact dropTo_len xs n m
        by_cases hmv : at_ xs m = n
        · have q3 : (at_ xs m == (n : Int)) = true := by simp [hmv]
          have q4 : decide ((n : Int) < at_ xs n) = false := by simp; omega
          have HD := Lib.hid (dropTo_step xs hmn (show dv xs n m = at_ xs n by unfold dv; rw [if_pos hmv]))
          have HM := Lib.hid hmn
          clear hmv hmn
          go_wp2_with (at_builtin; refine wpList_app rfl (.tmp 47) (.tmp 49) _ rfl w.heap.size 3 (.int .i64 0) 1 8 Try.underlying22 info_int rfl (by omega) T' (some ⟨wr.heap.size, 0, none⟩) cur.length cap' 1 1 (wr.heap.size + 1) (cI cur) (fun _ => .int .i64 (at_ xs n)) rfl rfl (Own.below hownr ((Below.refl _ _).alloc (Nat.le_refl _) _)) (rd_one _ _ _) (fun _ _ => rfl) (by simp only [maxLen]; omega) (by omega) (by simp; omega) ?_; intro T1 cap1 w1 hown1 hg1)
          go_roundw
          case rel => exact ⟨m + 1, T1, cap1, cur ++ [_], by omega, by go_num, by rw [List.length_append]; rfl, Lib.hid (by rw [HD.out, hcur.out]), by rw [List.length_append]; simp; omega, OwnI.snoc hown1, hbr.trans (((Below.refl _ _).alloc hsz _).trans (grown_below hg1 (fun b hb => (hownr.lt hb).1) (by simp; omega)))⟩
          case measure => simp [intOf]; omega
        · have q3 : (at_ xs m == (n : Int)) = false := by simp [hmv]
          by_cases hgt : (n : Int) < at_ xs m
          · have q4 : decide ((n : Int) < at_ xs m) = true := by simp [hgt]
            have HD := Lib.hid (dropTo_step xs hmn (show dv xs n m = at_ xs m - 1 by unfold dv; rw [if_neg hmv, if_pos hgt]))
            have HM := Lib.hid hmn
            clear hmv hmn
            go_wp2_with (at_builtin; refine wpList_app rfl (.tmp 47) (.tmp 49) _ rfl w.heap.size 3 (.int .i64 0) 1 8 Try.underlying22 info_int rfl (by omega) T' (some ⟨wr.heap.size, 0, none⟩) cur.length cap' 1 1 (wr.heap.size + 1) (cI cur) (fun _ => .int .i64 (at_ xs m - 1)) rfl rfl (Own.below hownr ((Below.refl _ _).alloc (Nat.le_refl _) _)) (rd_one _ _ _) (fun _ _ => rfl) (by simp only [maxLen]; omega) (by omega) (by simp; omega) ?_; intro T1 cap1 w1 hown1 hg1)
            go_roundw
            case rel => exact ⟨m + 1, T1, cap1, cur ++ [_], by omega, by go_num, by rw [List.length_append]; rfl, Lib.hid (by rw [HD.out, hcur.out]), by rw [List.length_append]; simp; omega, OwnI.snoc hown1, hbr.trans (((Below.refl _ _).alloc hsz _).trans (grown_below hg1 (fun b hb => (hownr.lt hb).1) (by simp; omega)))⟩
            case measure => simp [intOf]; omega
          · have q4 : decide ((n : Int) < at_ xs m) = false := by simp; omega
            have HD := Lib.hid (dropTo_step xs hmn (show dv xs n m = at_ xs m by unfold dv; rw [if_neg hmv, if_neg hgt]))
            have HM := Lib.hid hmn
            clear hmv hmn
            go_wp2_with (at_builtin; refine wpList_app rfl (.tmp 47) (.tmp 49) _ rfl w.heap.size 3 (.int .i64 0) 1 8 Try.underlying22 info_int rfl (by omega) T' (some ⟨wr.heap.size, 0, none⟩) cur.length cap' 1 1 (wr.heap.size + 1) (cI cur) (fun _ => .int .i64 (at_ xs m)) rfl rfl (Own.below hownr ((Below.refl _ _).alloc (Nat.le_refl _) _)) (rd_one _ _ _) (fun _ _ => rfl) (by simp only [maxLen]; omega) (by omega) (by simp; omega) ?_; intro T1 cap1 w1 hown1 hg1)
            go_roundw
            case rel => exact ⟨m + 1, T1, cap1, cur ++ [_], by omega, by go_num, by rw [List.length_append]; rfl, Lib.hid (by rw [HD.out, hcur.out]), by rw [List.length_append]; simp; omega, OwnI.snoc hown1, hbr.trans (((Below.refl _ _).alloc hsz _).trans (grown_below hg1 (fun b hb => (hownr.lt hb).1) (by simp; omega)))⟩
            case measure => simp [intOf]; omega
    · obtain rfl : m = xs.length := by omega
      go_wp2
      go_ret2
      rw [← hcur.out]
      exact ⟨T', cap', rfl, hownr, hbr⟩
theorem specDropPost_any (A : Option Addr) (cap : Nat) (xs : List Int) (n : Int) (w : World) (B : Nat) (h : RdI w B A xs) (hB : B ≤ w.heap.size) (hl : xs.length ≤ 140737488351232) :
    Calls Try.prog 27 #[.slice A xs.length cap, .int .i64 n] w fun e w' => ∃ T' cap', e = .returned (.tuple #[.slice T' (dropOf xs n).length cap', .bool (dropOk xs n)]) ∧ OwnI w' w.heap.size T' cap' (dropOf xs n) ∧ Below w.heap.size w w' := by
  by_cases hv : pvB xs = true
  · by_cases hn : inB n 0 ((xs.length : Int) - 1) = true
    · obtain ⟨h0, h1⟩ := inB_at hn
      obtain ⟨m, rfl⟩ := Int.eq_ofNat_of_zero_le h0
      have hm : m < xs.length := by omega
      rw [(dropOf_yes hv hm).1, (dropOf_yes hv hm).2]
      exact specDropPost_yes A cap xs m w B h hB hv hm
    · exact specDropPost_no A cap xs n w B h hB hl (.inr (by simpa using hn))
  · exact specDropPost_no A cap xs n w B h hB hl (.inl (by simpa using hv))

theorem implDropPost_no (A : Option Addr) (cap : Nat) (xs : List Int) (n : Int) (w : World) (B : Nat) (h : RdI w B A xs) (_hB : B ≤ w.heap.size) (hl : xs.length ≤ 140737488351232) (hno : pvB xs = false ∨ inB n 0 ((xs.length : Int) - 1) = false) :
    Calls Try.prog 28 #[.slice A xs.length cap, .int .i64 n] w fun e w' => ∃ T' cap', e = .returned (.tuple #[.slice T' (dropOf xs n).length cap', .bool (dropOk xs n)]) ∧ OwnI w' w.heap.size T' cap' (dropOf xs n) ∧ Below w.heap.size w w' := by
  by_cases hv : pvB xs = true
  · have hn' : inB n 0 ((xs.length : Int) - 1) = false := by
      rcases hno with h1 | h1
      · rw [h1] at hv; cases hv
      · exact h1
    have HR := Lib.hid (dropOf_no (.inr (inB_out hn')) : dropOf xs n = [] ∧ dropOk xs n = false)
    clear hno
    go_enter Try.func28, Try.ntmps28
    go_wp2_with (first
        | (go_at_call 15; refine (implPostsValid_any _ _ _ xs _ (h) hl).mono ?_; rintro e w' ⟨rfl, rfl⟩)
        | (go_at_call 35; refine (within_any _ _ _ _).mono ?_; rintro e w' ⟨rfl, rfl⟩))
    go_ret2
    rw [HR.out.1, HR.out.2]
    exact ⟨none, 0, rfl, Own.nil _ _ _ _ _, Below.refl _ _⟩
  · have hv' : pvB xs = false := by simpa using hv
    have HR := Lib.hid (dropOf_no (.inl hv') : dropOf xs n = [] ∧ dropOk xs n = false)
    clear hv hno
    go_enter Try.func28, Try.ntmps28
    go_wp2_with (go_at_call 15; refine (implPostsValid_any _ _ _ xs _ (h) hl).mono ?_; rintro e w' ⟨rfl, rfl⟩)
    go_ret2
    rw [HR.out.1, HR.out.2]
    exact ⟨none, 0, rfl, Own.nil _ _ _ _ _, Below.refl _ _⟩
theorem implDropPost_yes (A : Option Addr) (cap : Nat) (xs : List Int) (n : Nat) (w : World) (B : Nat) (h : RdI w B A xs) (hB : B ≤ w.heap.size) (hv : pvB xs = true) (hn : n < xs.length) :
    Calls Try.prog 28 #[.slice A xs.length cap, .int .i64 n] w fun e w' => ∃ T' cap', e = .returned (.tuple #[.slice T' (dropTo xs n xs.length).length cap', .bool true]) ∧ OwnI w' w.heap.size T' cap' (dropTo xs n xs.length) ∧ Below w.heap.size w w' := by
  have HV := Lib.hid (Pv.of hv)
  have h16 := HV.out.1
  have hin : inB n 0 ((xs.length : Int) - 1) = true := inB_true (by omega) (by omega)
  have hnn := HV.out.hi hn
  have hnl := HV.out.lo hn
  go_enter Try.func28, Try.ntmps28
  go_wp2_with (first
        | (go_at_call 15; refine (implPostsValid_any _ _ _ xs _ (h) (by omega)).mono ?_; rintro e w' ⟨rfl, rfl⟩)
        | (go_at_call 35; refine (within_any _ _ _ _).mono ?_; rintro e w' ⟨rfl, rfl⟩))
  go_loopw [6, 22] (fun v i wr => ∃ (m : Nat) (T' : Option Addr) (cap' : Nat) (cur : List Int), m ≤ xs.length ∧ i = .int .i64 m ∧ v = .slice T' cur.length cap' ∧ Hid (cur = dropTo xs n m) ∧ cur.length ≤ 16 ∧ OwnI wr w.heap.size T' cap' cur ∧ Below w.heap.size w wr) (fun _ i _ => xs.length - (intOf i).toNat)
  case atStart => exact ⟨0, none, 0, [], by omega, rfl, rfl, Lib.hid rfl, by simp, Own.nil _ _ _ _ _, Below.refl _ _⟩
  case round =>
    obtain ⟨m, T', cap', cur, hm, rfl, rfl, hcur, hc16, hownr, hbr⟩ := hrel
    by_cases hlt : m < xs.length
    · have hr' := h.below (hbr.mono hB)
      obtain ⟨b, off, rfl, hb, hc⟩ := hr'.at_ (by omega)
      have hck := hc m hlt
      have hcn := hc n hn
      have hmh := HV.out.hi hlt
      have hml := HV.out.lo hlt
      have hsz := hbr.size
      clear hc hr' h
      by_cases hmn : m = n
      · subst hmn
        have q1 : ((m : Int) == (m : Int)) = true := by simp
        have q2 : ((m : Int) != (m : Int)) = false := by simp
        have q3 : (at_ xs m == (m : Int)) = false := by simp; omega
        have q4 : decide ((m : Int) < at_ xs m) = false := by simp; omega
        go_wp2_with fail
        go_roundw
        case rel => exact ⟨m + 1, T', cap', cur, by omega, by go_num, rfl, Lib.hid (by rw [dropTo_skip]; exact hcur.out), hc16, hownr, hbr⟩
        case measure => simp [intOf]; omega
      · have q1 : ((m : Int) == (n : Int)) = false := by simp; omega
        have q2 : ((m : Int) != (n : Int)) = true := by simp; omega
        have hcm : cur.length ≤ m := by rw [hcur.out]; exact dropTo_len xs n m
        by_cases hmv : at_ xs m = n
        · have q3 : (at_ xs m == (n : Int)) = true := by simp [hmv]
          have q4 : decide ((n : Int) < at_ xs n) = false := by simp; omega
          have HD := Lib.hid (dropTo_step xs hmn (show dv xs n m = at_ xs n by unfold dv; rw [if_pos hmv]))
          have HM := Lib.hid hmn
          clear hmv hmn
          go_wp2_with (at_builtin; refine wpList_app rfl (.tmp 44) (.tmp 46) _ rfl w.heap.size 3 (.int .i64 0) 1 8 Try.underlying22 info_int rfl (by omega) T' (some ⟨wr.heap.size, 0, none⟩) cur.length cap' 1 1 (wr.heap.size + 1) (cI cur) (fun _ => .int .i64 (at_ xs n)) rfl rfl (Own.below hownr ((Below.refl _ _).alloc (Nat.le_refl _) _)) (rd_one _ _ _) (fun _ _ => rfl) (by simp only [maxLen]; omega) (by omega) (by simp; omega) ?_; intro T1 cap1 w1 hown1 hg1)
          go_roundw
          case rel => exact ⟨m + 1, T1, cap1, cur ++ [_], by omega, by go_num, by rw [List.length_append]; rfl, Lib.hid (by rw [HD.out, hcur.out]), by rw [List.length_append]; simp; omega, OwnI.snoc hown1, hbr.trans (((Below.refl _ _).alloc hsz _).trans (grown_below hg1 (fun b hb => (hownr.lt hb).1) (by simp; omega)))⟩
          case measure => simp [intOf]; omega
        · have q3 : (at_ xs m == (n : Int)) = false := by simp [hmv]
          by_cases hgt : (n : Int) < at_ xs m
          · have q4 : decide ((n : Int) < at_ xs m) = true := by simp [hgt]
            have HD := Lib.hid (dropTo_step xs hmn (show dv xs n m = at_ xs m - 1 by unfold dv; rw [if_neg hmv, if_pos hgt]))
            have HM := Lib.hid hmn
            clear hmv hmn
            go_wp2_with (at_builtin; refine wpList_app rfl (.tmp 44) (.tmp 46) _ rfl w.heap.size 3 (.int .i64 0) 1 8 Try.underlying22 info_int rfl (by omega) T' (some ⟨wr.heap.size, 0, none⟩) cur.length cap' 1 1 (wr.heap.size + 1) (cI cur) (fun _ => .int .i64 (at_ xs m - 1)) rfl rfl (Own.below hownr ((Below.refl _ _).alloc (Nat.le_refl _) _)) (rd_one _ _ _) (fun _ _ => rfl) (by simp only [maxLen]; omega) (by omega) (by simp; omega) ?_; intro T1 cap1 w1 hown1 hg1)
            go_roundw
            case rel => exact ⟨m + 1, T1, cap1, cur ++ [_], by omega, by go_num, by rw [List.length_append]; rfl, Lib.hid (by rw [HD.out, hcur.out]), by rw [List.length_append]; simp; omega, OwnI.snoc hown1, hbr.trans (((Below.refl _ _).alloc hsz _).trans (grown_below hg1 (fun b hb => (hownr.lt hb).1) (by simp; omega)))⟩
            case measure => simp [intOf]; omega
          · have q4 : decide ((n : Int) < at_ xs m) = false := by simp; omega
            have HD := Lib.hid (dropTo_step xs hmn (show dv xs n m = at_ xs m by unfold dv; rw [if_neg hmv, if_neg hgt]))
            have HM := Lib.hid hmn
            clear hmv hmn
            go_wp2_with (at_builtin; refine wpList_app rfl (.tmp 44) (.tmp 46) _ rfl w.heap.size 3 (.int .i64 0) 1 8 Try.underlying22 info_int rfl (by omega) T' (some ⟨wr.heap.size, 0, none⟩) cur.length cap' 1 1 (wr.heap.size + 1) (cI cur) (fun _ => .int .i64 (at_ xs m)) rfl rfl (Own.below hownr ((Below.refl _ _).alloc (Nat.le_refl _) _)) (rd_one _ _ _) (fun _ _ => rfl) (by simp only [maxLen]; omega) (by omega) (by simp; omega) ?_; intro T1 cap1 w1 hown1 hg1)
            go_roundw
            case rel => exact ⟨m + 1, T1, cap1, cur ++ [_], by omega, by go_num, by rw [List.length_append]; rfl, Lib.hid (by rw [HD.out, hcur.out]), by rw [List.length_append]; simp; omega, OwnI.snoc hown1, hbr.trans (((Below.refl _ _).alloc hsz _).trans (grown_below hg1 (fun b hb => (hownr.lt hb).1) (by simp; omega)))⟩
            case measure => simp [intOf]; omega
    · obtain rfl : m = xs.length := by omega
      go_wp2
      go_ret2
      rw [← hcur.out]
      exact ⟨T', cap', rfl, hownr, hbr⟩
theorem implDropPost_any (A : Option Addr) (cap : Nat) (xs : List Int) (n : Int) (w : World) (B : Nat) (h : RdI w B A xs) (hB : B ≤ w.heap.size) (hl : xs.length ≤ 140737488351232) :
    Calls Try.prog 28 #[.slice A xs.length cap, .int .i64 n] w fun e w' => ∃ T' cap', e = .returned (.tuple #[.slice T' (dropOf xs n).length cap', .bool (dropOk xs n)]) ∧ OwnI w' w.heap.size T' cap' (dropOf xs n) ∧ Below w.heap.size w w' := by
  by_cases hv : pvB xs = true
  · by_cases hn : inB n 0 ((xs.length : Int) - 1) = true
    · obtain ⟨h0, h1⟩ := inB_at hn
      obtain ⟨m, rfl⟩ := Int.eq_ofNat_of_zero_le h0
      have hm : m < xs.length := by omega
      rw [(dropOf_yes hv hm).1, (dropOf_yes hv hm).2]
      exact implDropPost_yes A cap xs m w B h hB hv hm
    · exact implDropPost_no A cap xs n w B h hB hl (.inr (by simpa using hn))
  · exact implDropPost_no A cap xs n w B h hB hl (.inl (by simpa using hv))
end Go.Proofs.Ytnaiopbealnpmaa
