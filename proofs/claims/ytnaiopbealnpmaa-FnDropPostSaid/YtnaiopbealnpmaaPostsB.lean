import Derived.Test.YtnaiopbealnpmaaInts
import Derived.Test.YtnaiopbealnpmaaPostsA
namespace Go.Proofs.Ytnaiopbealnpmaa
open Go.RowKit PP
theorem inB_at {n : Int} {l : Nat} (h : inB n 0 ((l : Int) - 1) = true) : 0 ≤ n ∧ n < l := by
  simp only [inB, Bool.and_eq_true, decide_eq_true_eq] at h; omega
theorem inB_out {n : Int} {l : Nat} (h : inB n 0 ((l : Int) - 1) = false) : n < 0 ∨ (l : Int) ≤ n := by
  simp only [inB, Bool.and_eq_false_iff, decide_eq_false_iff_not] at h; omega
theorem specRootOf_any (A : Option Addr) (cap B : Nat) (xs : List Int) (n : Int) (w : World) (h : RdI w B A xs) (hl : xs.length ≤ 140737488351232) :
    Calls Try.prog 17 #[.slice A xs.length cap, .int .i64 n] w fun e w' => e = .returned (.int .i64 (rootOf xs n)) ∧ w = w' := by
  by_cases hv : pvB xs = true
  · by_cases hn : inB n 0 ((xs.length : Int) - 1) = true
    · obtain ⟨h0, h1⟩ := inB_at hn
      obtain ⟨m, rfl⟩ := Int.eq_ofNat_of_zero_le h0
      have hm : m < xs.length := by omega
      have HV := Lib.hid (Pv.of hv)
      have HR := Lib.hid (rootOf_yes hv hm)
      clear h0 h1
      go_enter Try.func17, Try.ntmps17
      go_wp2_with (first
        | (go_at_call 13; refine (specPostsValid_any _ _ _ xs _ h hl).mono ?_; rintro e w' ⟨rfl, rfl⟩)
        | (go_at_call 34; refine (l1In_any _ _ _ _).mono ?_; rintro e w' ⟨rfl, rfl⟩))
      go_loop [1] (fun i => ∃ k : Nat, k < xs.length ∧ root xs k = root xs m ∧ i = .int .i64 k) (fun i => (intOf i).toNat)
      case atStart => exact ⟨m, hm, rfl, rfl⟩
      case round =>
        obtain ⟨k, hk, hr, rfl⟩ := hrel
        have HK := Lib.hid hr; clear hr
        obtain ⟨b, off, rfl, hb, hc⟩ := h.at_ (by omega)
        have hck := hc k hk
        clear hc
        have hhi := HV.out.hi hk
        by_cases h0 : 0 ≤ at_ xs k
        · obtain ⟨j, hj⟩ := Int.eq_ofNat_of_zero_le h0
          have HJ := Lib.hid hj; clear hj
          go_wp2
          go_round
          case rel => exact ⟨j, by have := HJ.out; omega, by rw [← HK.out, root_up HV.out hk h0, HJ.out]; rfl, by rw [HJ.out]⟩
          case measure => simp [intOf]; have := HJ.out; omega
        · have HE := Lib.hid (root_end (xs := xs) (n := k) (by omega))
          have hlt : at_ xs k < 0 := by omega
          clear h0
          go_wp2
          go_ret
          exact ⟨ret_int (by rw [HR.out, ← HK.out, HE.out]), rfl⟩
    · have hn' : inB n 0 ((xs.length : Int) - 1) = false := by simpa using hn
      have HR := Lib.hid (rootOf_no (.inr (inB_out hn')) : rootOf xs n = -1)
      clear hn
      go_enter Try.func17, Try.ntmps17
      go_wp2_with (first
        | (go_at_call 13; refine (specPostsValid_any _ _ _ xs _ h hl).mono ?_; rintro e w' ⟨rfl, rfl⟩)
        | (go_at_call 34; refine (l1In_any _ _ _ _).mono ?_; rintro e w' ⟨rfl, rfl⟩))
      go_ret
      exact ⟨ret_int HR.out.symm, rfl⟩
  · have hv' : pvB xs = false := by simpa using hv
    have HR := Lib.hid (rootOf_no (.inl hv') : rootOf xs n = -1)
    clear hv
    go_enter Try.func17, Try.ntmps17
    go_wp2_with (go_at_call 13; refine (specPostsValid_any _ _ _ xs _ h hl).mono ?_; rintro e w' ⟨rfl, rfl⟩)
    go_ret
    exact ⟨ret_int HR.out.symm, rfl⟩
theorem specDepthOf_any (A : Option Addr) (cap B : Nat) (xs : List Int) (n : Int) (w : World) (h : RdI w B A xs) (hl : xs.length ≤ 140737488351232) :
    Calls Try.prog 19 #[.slice A xs.length cap, .int .i64 n] w fun e w' => e = .returned (.int .i64 (depthOf xs n)) ∧ w = w' := by
  by_cases hv : pvB xs = true
  · by_cases hn : inB n 0 ((xs.length : Int) - 1) = true
    · obtain ⟨h0, h1⟩ := inB_at hn
      obtain ⟨m, rfl⟩ := Int.eq_ofNat_of_zero_le h0
      have hm : m < xs.length := by omega
      have HV := Lib.hid (Pv.of hv)
      have HR := Lib.hid (depthOf_yes hv hm)
      clear h0 h1
      go_enter Try.func19, Try.ntmps19
      go_wp2_with (first
        | (go_at_call 13; refine (specPostsValid_any _ _ _ xs _ h hl).mono ?_; rintro e w' ⟨rfl, rfl⟩)
        | (go_at_call 34; refine (l1In_any _ _ _ _).mono ?_; rintro e w' ⟨rfl, rfl⟩))
      go_loop [1, 5] (fun i d => ∃ k c : Nat, k < xs.length ∧ deep xs k + c = deep xs m ∧ c + k ≤ m ∧ i = .int .i64 k ∧ d = .int .i64 c) (fun i _ => (intOf i).toNat)
      case atStart => exact ⟨m, 0, hm, rfl, by omega, rfl, rfl⟩
      case round =>
        obtain ⟨k, c, hk, hr, hcm, rfl, rfl⟩ := hrel
        have HK := Lib.hid hr; clear hr
        obtain ⟨b, off, rfl, hb, hc⟩ := h.at_ (by omega)
        have hck := hc k hk
        clear hc
        have hhi := HV.out.hi hk
        by_cases h0 : 0 ≤ at_ xs k
        · obtain ⟨j, hj⟩ := Int.eq_ofNat_of_zero_le h0
          have HJ := Lib.hid hj; clear hj
          go_wp2
          go_round
          case rel => exact ⟨j, c + 1, by have := HJ.out; omega, by rw [← HK.out, deep_up HV.out hk h0, HJ.out]; simp only [Int.toNat_natCast]; omega, by have := HJ.out; omega, by rw [HJ.out], by go_num⟩
          case measure => simp [intOf]; have := HJ.out; omega
        · have HE := Lib.hid (deep_end (xs := xs) (n := k) (by omega))
          have hlt : at_ xs k < 0 := by omega
          clear h0
          go_wp2
          go_ret
          exact ⟨ret_int (by rw [HR.out, ← HK.out, HE.out, Nat.zero_add]), rfl⟩
    · have hn' : inB n 0 ((xs.length : Int) - 1) = false := by simpa using hn
      have HR := Lib.hid (depthOf_no (.inr (inB_out hn')) : depthOf xs n = -1)
      clear hn
      go_enter Try.func19, Try.ntmps19
      go_wp2_with (first
        | (go_at_call 13; refine (specPostsValid_any _ _ _ xs _ h hl).mono ?_; rintro e w' ⟨rfl, rfl⟩)
        | (go_at_call 34; refine (l1In_any _ _ _ _).mono ?_; rintro e w' ⟨rfl, rfl⟩))
      go_ret
      exact ⟨ret_int HR.out.symm, rfl⟩
  · have hv' : pvB xs = false := by simpa using hv
    have HR := Lib.hid (depthOf_no (.inl hv') : depthOf xs n = -1)
    clear hv
    go_enter Try.func19, Try.ntmps19
    go_wp2_with (go_at_call 13; refine (specPostsValid_any _ _ _ xs _ h hl).mono ?_; rintro e w' ⟨rfl, rfl⟩)
    go_ret
    exact ⟨ret_int HR.out.symm, rfl⟩
theorem implRootOf_any (A : Option Addr) (cap B : Nat) (xs : List Int) (n : Int) (w : World) (h : RdI w B A xs) (hl : xs.length ≤ 140737488351232) :
    Calls Try.prog 18 #[.slice A xs.length cap, .int .i64 n] w fun e w' => e = .returned (.int .i64 (rootOf xs n)) ∧ w = w' := by
  by_cases hv : pvB xs = true
  · by_cases hn : inB n 0 ((xs.length : Int) - 1) = true
    · obtain ⟨h0, h1⟩ := inB_at hn
      obtain ⟨m, rfl⟩ := Int.eq_ofNat_of_zero_le h0
      have hm : m < xs.length := by omega
      have HV := Lib.hid (Pv.of hv)
      have HR := Lib.hid (rootOf_yes hv hm)
      clear h0 h1
      go_enter Try.func18, Try.ntmps18
      go_wp2_with (first
        | (go_at_call 15; refine (implPostsValid_any _ _ _ xs _ h hl).mono ?_; rintro e w' ⟨rfl, rfl⟩)
        | (go_at_call 35; refine (within_any _ _ _ _).mono ?_; rintro e w' ⟨rfl, rfl⟩))
      go_loop [1] (fun i => ∃ k : Nat, k < xs.length ∧ root xs k = root xs m ∧ i = .int .i64 k) (fun i => (intOf i).toNat)
      case atStart => exact ⟨m, hm, rfl, rfl⟩
      case round =>
        obtain ⟨k, hk, hr, rfl⟩ := hrel
        have HK := Lib.hid hr; clear hr
        obtain ⟨b, off, rfl, hb, hc⟩ := h.at_ (by omega)
        have hck := hc k hk
        clear hc
        have hhi := HV.out.hi hk
        by_cases h0 : 0 ≤ at_ xs k
        · obtain ⟨j, hj⟩ := Int.eq_ofNat_of_zero_le h0
          have HJ := Lib.hid hj; clear hj
          go_wp2
          go_round
          case rel => exact ⟨j, by have := HJ.out; omega, by rw [← HK.out, root_up HV.out hk h0, HJ.out]; rfl, by rw [HJ.out]⟩
          case measure => simp [intOf]; have := HJ.out; omega
        · have HE := Lib.hid (root_end (xs := xs) (n := k) (by omega))
          have hlt : at_ xs k < 0 := by omega
          clear h0
          go_wp2
          go_ret
          exact ⟨ret_int (by rw [HR.out, ← HK.out, HE.out]), rfl⟩
    · have hn' : inB n 0 ((xs.length : Int) - 1) = false := by simpa using hn
      have HR := Lib.hid (rootOf_no (.inr (inB_out hn')) : rootOf xs n = -1)
      clear hn
      go_enter Try.func18, Try.ntmps18
      go_wp2_with (first
        | (go_at_call 15; refine (implPostsValid_any _ _ _ xs _ h hl).mono ?_; rintro e w' ⟨rfl, rfl⟩)
        | (go_at_call 35; refine (within_any _ _ _ _).mono ?_; rintro e w' ⟨rfl, rfl⟩))
      go_ret
      exact ⟨ret_int HR.out.symm, rfl⟩
  · have hv' : pvB xs = false := by simpa using hv
    have HR := Lib.hid (rootOf_no (.inl hv') : rootOf xs n = -1)
    clear hv
    go_enter Try.func18, Try.ntmps18
    go_wp2_with (go_at_call 15; refine (implPostsValid_any _ _ _ xs _ h hl).mono ?_; rintro e w' ⟨rfl, rfl⟩)
    go_ret
    exact ⟨ret_int HR.out.symm, rfl⟩
theorem implDepthOf_any (A : Option Addr) (cap B : Nat) (xs : List Int) (n : Int) (w : World) (h : RdI w B A xs) (hl : xs.length ≤ 140737488351232) :
    Calls Try.prog 20 #[.slice A xs.length cap, .int .i64 n] w fun e w' => e = .returned (.int .i64 (depthOf xs n)) ∧ w = w' := by
  by_cases hv : pvB xs = true
  · by_cases hn : inB n 0 ((xs.length : Int) - 1) = true
    · obtain ⟨h0, h1⟩ := inB_at hn
      obtain ⟨m, rfl⟩ := Int.eq_ofNat_of_zero_le h0
      have hm : m < xs.length := by omega
      have HV := Lib.hid (Pv.of hv)
      have HR := Lib.hid (depthOf_yes hv hm)
      clear h0 h1
      go_enter Try.func20, Try.ntmps20
      go_wp2_with (first
        | (go_at_call 15; refine (implPostsValid_any _ _ _ xs _ h hl).mono ?_; rintro e w' ⟨rfl, rfl⟩)
        | (go_at_call 35; refine (within_any _ _ _ _).mono ?_; rintro e w' ⟨rfl, rfl⟩))
      go_loop [1, 5] (fun i d => ∃ k c : Nat, k < xs.length ∧ deep xs k + c = deep xs m ∧ c + k ≤ m ∧ i = .int .i64 k ∧ d = .int .i64 c) (fun i _ => (intOf i).toNat)
      case atStart => exact ⟨m, 0, hm, rfl, by omega, rfl, rfl⟩
      case round =>
        obtain ⟨k, c, hk, hr, hcm, rfl, rfl⟩ := hrel
        have HK := Lib.hid hr; clear hr
        obtain ⟨b, off, rfl, hb, hc⟩ := h.at_ (by omega)
        have hck := hc k hk
        clear hc
        have hhi := HV.out.hi hk
        by_cases h0 : 0 ≤ at_ xs k
        · obtain ⟨j, hj⟩ := Int.eq_ofNat_of_zero_le h0
          have HJ := Lib.hid hj; clear hj
          go_wp2
          go_round
          case rel => exact ⟨j, c + 1, by have := HJ.out; omega, by rw [← HK.out, deep_up HV.out hk h0, HJ.out]; simp only [Int.toNat_natCast]; omega, by have := HJ.out; omega, by rw [HJ.out], by go_num⟩
          case measure => simp [intOf]; have := HJ.out; omega
        · have HE := Lib.hid (deep_end (xs := xs) (n := k) (by omega))
          have hlt : at_ xs k < 0 := by omega
          clear h0
          go_wp2
          go_ret
          exact ⟨ret_int (by rw [HR.out, ← HK.out, HE.out, Nat.zero_add]), rfl⟩
    · have hn' : inB n 0 ((xs.length : Int) - 1) = false := by simpa using hn
      have HR := Lib.hid (depthOf_no (.inr (inB_out hn')) : depthOf xs n = -1)
      clear hn
      go_enter Try.func20, Try.ntmps20
      go_wp2_with (first
        | (go_at_call 15; refine (implPostsValid_any _ _ _ xs _ h hl).mono ?_; rintro e w' ⟨rfl, rfl⟩)
        | (go_at_call 35; refine (within_any _ _ _ _).mono ?_; rintro e w' ⟨rfl, rfl⟩))
      go_ret
      exact ⟨ret_int HR.out.symm, rfl⟩
  · have hv' : pvB xs = false := by simpa using hv
    have HR := Lib.hid (depthOf_no (.inl hv') : depthOf xs n = -1)
    clear hv
    go_enter Try.func20, Try.ntmps20
    go_wp2_with (go_at_call 15; refine (implPostsValid_any _ _ _ xs _ h hl).mono ?_; rintro e w' ⟨rfl, rfl⟩)
    go_ret
    exact ⟨ret_int HR.out.symm, rfl⟩
end Go.Proofs.Ytnaiopbealnpmaa
