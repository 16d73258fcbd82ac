import Derived.Test.YtnaiopbealnpmaaPostsB
namespace Go.Proofs.Ytnaiopbealnpmaa
open Go.RowKit PP
theorem withAnswers_any (xs : List Int) (hl16 : xs.length ≤ 16) (A : Option Addr) (cap : Nat) : ∀ (f n base : Nat) (T : Option Addr) (capT : Nat) (acc : List Int) (w : World), n < xs.length → xs.length ≤ n + f →
    RdI w base A xs → OwnI w base T capT acc → base ≤ w.heap.size → acc.length + tb xs n ≤ 1048576 →
    Calls Try.prog 36 #[.slice T acc.length capT, .slice A xs.length cap, .int .i64 n] w fun e w' => ∃ T' cap', e = .returned (.slice T' (acc ++ thread xs f n).length cap') ∧ OwnI w' base T' cap' (acc ++ thread xs f n) ∧ Below base w w' := by
  intro f
  induction f with
  | zero => intro n base T capT acc w h1 h2; omega
  | succ f ih =>
    intro n base T capT acc w hn hf hr hown hbase hroom
    have IH := Lib.hid ih; clear ih
    have htb := tb_pos xs n
    go_enter Try.func36, Try.ntmps36
    go_wp2_with (at_builtin; refine wpList_app rfl (.tmp 8) (.tmp 10) _ rfl base 3 (.int .i64 0) 1 8 Try.underlying22 info_int rfl (by omega) T (some ⟨w.heap.size, 0, none⟩) acc.length capT 1 1 (w.heap.size + 1) (cI acc) (fun _ => .int .i64 n) rfl rfl (Own.below hown ((Below.refl _ _).alloc (Nat.le_refl _) _)) (rd_one _ _ _) (fun _ _ => rfl) (by simp only [maxLen]; omega) (by omega) (by simp; omega) ?_; intro T1 cap1 w1 hown1 hg1)
    have hown2 : OwnI w1 base T1 cap1 (acc ++ [(n : Int)]) := OwnI.snoc hown1
    have hb1 : Below base w w1 := ((Below.refl _ _).alloc hbase _).trans (grown_below hg1 (fun b hb => (hown.lt hb).1) (by simp; omega))
    clear hown1 hg1 hown
    go_loopw [0, 7] (fun v i wr => ∃ (m : Nat) (T' : Option Addr) (cap' : Nat) (cur : List Int), n < m ∧ m ≤ xs.length ∧ i = .int .i64 m ∧ v = .slice T' cur.length cap' ∧ Hid (cur = acc ++ [(n : Int)] ++ answers xs f n m) ∧ OwnI wr base T' cap' cur ∧ Below base w wr) (fun _ i _ => xs.length - (intOf i).toNat)
    case atStart => exact ⟨n + 1, T1, cap1, acc ++ [(n : Int)], by omega, by omega, by go_num, by simp, Lib.hid (by rw [answers_start, List.append_nil]), hown2, hb1⟩
    case round =>
      obtain ⟨m, T', cap', cur, hnm, hm, rfl, rfl, hcur, hownr, hbr⟩ := hrel
      clear hown2 hb1
      by_cases hlt : m < xs.length
      · have hr' := hr.below hbr
        obtain ⟨b, off, rfl, hb, hc⟩ := hr'.at_ (by omega)
        have hck := hc m hlt
        clear hc
        by_cases heq : at_ xs m = n
        · have he : (at_ xs m == (n : Int)) = true := by simp [heq]
          have hcl : cur.length + tb xs m ≤ 1048576 := by
            have h1 := answers_room xs f n m hnm hlt
            rw [hcur.out]; simp; omega
          have HE := Lib.hid heq; clear heq
          go_wp2_with (go_at_call 36; refine (IH.out m base T' cap' cur wr hlt (by omega) hr' hownr (Nat.le_trans hbase hbr.size) hcl).mono ?_; rintro e w2 ⟨T2, cap2, rfl, hown3, hb3⟩)
          go_roundw
          case rel => exact ⟨m + 1, T2, cap2, cur ++ thread xs f m, by omega, by omega, by go_num, by rw [List.length_append], Lib.hid (by rw [answers_step _ _ _ _ hnm, if_pos HE.out, hcur.out, List.append_assoc]), hown3, hbr.trans hb3⟩
          case measure => simp [intOf]; omega
        · have he : (at_ xs m == (n : Int)) = false := by simp [heq]
          have HE := Lib.hid heq; clear heq
          go_wp2_with fail
          go_roundw
          case rel => exact ⟨m + 1, T', cap', cur, by omega, by omega, by go_num, rfl, Lib.hid (by rw [answers_step _ _ _ _ hnm, if_neg HE.out, List.append_nil]; exact hcur.out), hownr, hbr⟩
          case measure => simp [intOf]; omega
      · obtain rfl : m = xs.length := by omega
        go_wp2
        go_ret
        have hfin : cur = acc ++ thread xs (f + 1) n := by rw [thread_succ, hcur.out]; simp
        rw [← hfin]
        exact ⟨T', cap', rfl, hownr, hbr⟩
theorem implThreadOf_any (A : Option Addr) (cap : Nat) (xs : List Int) (n : Int) (w : World) (h : RdI w w.heap.size A xs) (hl : xs.length ≤ 140737488351232) :
    Calls Try.prog 22 #[.slice A xs.length cap, .int .i64 n] w fun e w' => ∃ T' cap', e = .returned (.slice T' (threadOf xs n).length cap') ∧ OwnI w' w.heap.size T' cap' (threadOf xs n) ∧ Below w.heap.size w w' := by
  by_cases hv : pvB xs = true
  · by_cases hn : inB n 0 ((xs.length : Int) - 1) = true
    · obtain ⟨h0, h1⟩ := inB_at hn
      obtain ⟨m, rfl⟩ := Int.eq_ofNat_of_zero_le h0
      have hm : m < xs.length := by omega
      have HV := Lib.hid (Pv.of hv)
      have HR := Lib.hid (threadOf_yes hv hm)
      have h16 := HV.out.1
      have htb := tb_le h16 m
      clear h0 h1
      go_enter Try.func22, Try.ntmps22
      go_wp2_with (first
        | (go_at_call 15; refine (implPostsValid_any _ _ _ xs _ h hl).mono ?_; rintro e w' ⟨rfl, rfl⟩)
        | (go_at_call 35; refine (within_any _ _ _ _).mono ?_; rintro e w' ⟨rfl, rfl⟩)
        | (go_at_call 36; refine (withAnswers_any xs h16 A cap xs.length m w.heap.size none 0 [] w hm (by omega) h (Own.nil _ _ _ _ _) (Nat.le_refl _) (by simp; omega)).mono ?_; rintro e w2 ⟨T2, cap2, rfl, hown3, hb3⟩))
      go_ret
      rw [HR.out]
      exact ⟨T2, cap2, rfl, hown3, hb3⟩
    · have hn' : inB n 0 ((xs.length : Int) - 1) = false := by simpa using hn
      have HR := Lib.hid (threadOf_no (.inr (inB_out hn')) : threadOf xs n = [])
      clear hn
      go_enter Try.func22, Try.ntmps22
      go_wp2_with (first
        | (go_at_call 15; refine (implPostsValid_any _ _ _ xs _ h hl).mono ?_; rintro e w' ⟨rfl, rfl⟩)
        | (go_at_call 35; refine (within_any _ _ _ _).mono ?_; rintro e w' ⟨rfl, rfl⟩))
      go_ret
      rw [HR.out]
      exact ⟨none, 0, rfl, Own.nil _ _ _ _ _, Below.refl _ _⟩
  · have hv' : pvB xs = false := by simpa using hv
    have HR := Lib.hid (threadOf_no (.inl hv') : threadOf xs n = [])
    clear hv
    go_enter Try.func22, Try.ntmps22
    go_wp2_with (go_at_call 15; refine (implPostsValid_any _ _ _ xs _ h hl).mono ?_; rintro e w' ⟨rfl, rfl⟩)
    go_ret
    rw [HR.out]
    exact ⟨none, 0, rfl, Own.nil _ _ _ _ _, Below.refl _ _⟩
theorem specThreadOf_no (A : Option Addr) (cap : Nat) (xs : List Int) (n : Int) (w : World) (B : Nat) (h : RdI w B A xs) (hl : xs.length ≤ 140737488351232) (hno : pvB xs = false ∨ inB n 0 ((xs.length : Int) - 1) = false) :
    Calls Try.prog 21 #[.slice A xs.length cap, .int .i64 n] w fun e w' => ∃ T' cap', e = .returned (.slice T' (threadOf xs n).length cap') ∧ OwnI w' w.heap.size T' cap' (threadOf xs n) ∧ Below w.heap.size w w' := by
  by_cases hv : pvB xs = true
  · have hn' : inB n 0 ((xs.length : Int) - 1) = false := by
      rcases hno with h1 | h1
      · rw [h1] at hv; cases hv
      · exact h1
    have HR := Lib.hid (threadOf_no (.inr (inB_out hn')) : threadOf xs n = [])
    clear hno
    go_enter Try.func21, Try.ntmps21
    go_wp2_with (first
        | (go_at_call 13; refine (specPostsValid_any _ _ _ xs _ h hl).mono ?_; rintro e w' ⟨rfl, rfl⟩)
        | (go_at_call 34; refine (l1In_any _ _ _ _).mono ?_; rintro e w' ⟨rfl, rfl⟩))
    go_ret
    rw [HR.out]
    exact ⟨_, _, rfl, Own.lit _ _ 1 0 _ _ (Nat.zero_le _) rfl, (Below.refl _ _).alloc (Nat.le_refl _) _⟩
  · have hv' : pvB xs = false := by simpa using hv
    have HR := Lib.hid (threadOf_no (.inl hv') : threadOf xs n = [])
    clear hv hno
    go_enter Try.func21, Try.ntmps21
    go_wp2_with (go_at_call 13; refine (specPostsValid_any _ _ _ xs _ h hl).mono ?_; rintro e w' ⟨rfl, rfl⟩)
    go_ret
    rw [HR.out]
    exact ⟨_, _, rfl, Own.lit _ _ 1 0 _ _ (Nat.zero_le _) rfl, (Below.refl _ _).alloc (Nat.le_refl _) _⟩
theorem specThreadOf_yes (xs : List Int) (hv : pvB xs = true) (hl16 : xs.length ≤ 16) (A : Option Addr) (cap : Nat) : ∀ (f n : Nat) (w : World) (B : Nat), n < xs.length → xs.length ≤ n + f → B ≤ w.heap.size →
    RdI w B A xs → 
    Calls Try.prog 21 #[.slice A xs.length cap, .int .i64 n] w fun e w' => ∃ T' cap', e = .returned (.slice T' (thread xs f n).length cap') ∧ OwnI w' w.heap.size T' cap' (thread xs f n) ∧ Below w.heap.size w w' := by
  intro f
  induction f with
  | zero => intro n w B h1 h2; omega
  | succ f ih =>
    intro n w B hn hf hB hr
    have IH := Lib.hid ih; clear ih
    have htb := tb_pos xs n
    have htb' := tb_le hl16 n
    have hin : inB n 0 ((xs.length : Int) - 1) = true := inB_true (by omega) (by omega)
    go_enter Try.func21, Try.ntmps21
    go_wp2_with (first
        | (go_at_call 13; refine (specPostsValid_any _ _ _ xs _ hr (by omega)).mono ?_; rintro e w' ⟨rfl, rfl⟩)
        | (go_at_call 34; refine (l1In_any _ _ _ _).mono ?_; rintro e w' ⟨rfl, rfl⟩))
    have hown2 : OwnI (w.alloc (.cells #[.int .i64 n] 3)) w.heap.size (some ⟨w.heap.size, 0, none⟩) 1 [(n : Int)] := Own.lit w 3 1 1 _ (cI [(n : Int)]) (by simp only [maxLen]; omega) rfl
    have hb1 : Below w.heap.size w (w.alloc (.cells #[.int .i64 n] 3)) := (Below.refl _ _).alloc (Nat.le_refl _) _
    go_loopw [5, 6] (fun v i wr => ∃ (m : Nat) (T' : Option Addr) (cap' : Nat) (cur : List Int), n < m ∧ m ≤ xs.length ∧ i = .int .i64 m ∧ v = .slice T' cur.length cap' ∧ Hid (cur = [(n : Int)] ++ answers xs f n m) ∧ OwnI wr w.heap.size T' cap' cur ∧ Below w.heap.size w wr) (fun _ i _ => xs.length - (intOf i).toNat)
    case atStart => exact ⟨n + 1, some ⟨w.heap.size, 0, none⟩, 1, [(n : Int)], by omega, by omega, by go_num, rfl, Lib.hid (by rw [answers_start, List.append_nil]), hown2, hb1⟩
    case round =>
      obtain ⟨m, T', cap', cur, hnm, hm, rfl, rfl, hcur, hownr, hbr⟩ := hrel
      clear hown2 hb1
      by_cases hlt : m < xs.length
      · have hr' := hr.below (hbr.mono hB)
        obtain ⟨b, off, rfl, hb, hc⟩ := hr'.at_ (by omega)
        have hck := hc m hlt
        clear hc
        by_cases heq : at_ xs m = n
        · have he : (at_ xs m == (n : Int)) = true := by simp [heq]
          have hcl : cur.length + (thread xs f m).length ≤ 1048576 := by
            have h1 := answers_room xs f n m hnm hlt
            have h2 := thread_len xs f m hlt
            rw [hcur.out]; simp; omega
          have HE := Lib.hid heq; clear heq
          have hsz := hbr.size
          go_wp2_with (first
            | (go_at_call 21; refine (IH.out m wr B hlt (by omega) (by omega) hr').mono ?_; rintro e w2 ⟨T2, cap2, rfl, hown3, hb3⟩; have hownr2 := Own.below hownr hb3; have hsz3 := hb3.size)
            | (at_builtin; refine wpList_app rfl (.tmp 35) (.tmp 38) _ rfl w.heap.size 3 (.int .i64 0) 1 8 Try.underlying22 info_int rfl (by omega) T' T2 cur.length cap' (thread xs f m).length cap2 w2.heap.size (cI cur) (cI (thread xs f m)) rfl rfl hownr2 hown3.rd (fun _ _ => rfl) (by simp only [maxLen]; omega) (by omega) (by omega) ?_; intro T1 cap1 w1 hown1 hg1))
          go_roundw
          case rel => exact ⟨m + 1, T1, cap1, cur ++ thread xs f m, by omega, by omega, by go_num, by rw [List.length_append], Lib.hid (by rw [answers_step _ _ _ _ hnm, if_pos HE.out, hcur.out, List.append_assoc]), OwnI.cat hown1, (hbr.trans (hb3.mono hsz)).trans (grown_below hg1 (fun b hb => (hownr2.lt hb).1) (by omega))⟩
          case measure => simp [intOf]; omega
        · have he : (at_ xs m == (n : Int)) = false := by simp [heq]
          have HE := Lib.hid heq; clear heq
          go_wp2_with fail
          go_roundw
          case rel => exact ⟨m + 1, T', cap', cur, by omega, by omega, by go_num, rfl, Lib.hid (by rw [answers_step _ _ _ _ hnm, if_neg HE.out, List.append_nil]; exact hcur.out), hownr, hbr⟩
          case measure => simp [intOf]; omega
      · obtain rfl : m = xs.length := by omega
        go_wp2
        go_ret
        have hfin : cur = thread xs (f + 1) n := by rw [thread_succ, hcur.out]; simp
        rw [← hfin]
        exact ⟨T', cap', rfl, hownr, hbr⟩
theorem specThreadOf_any (A : Option Addr) (cap : Nat) (xs : List Int) (n : Int) (w : World) (B : Nat) (h : RdI w B A xs) (hB : B ≤ w.heap.size) (hl : xs.length ≤ 140737488351232) :
    Calls Try.prog 21 #[.slice A xs.length cap, .int .i64 n] w fun e w' => ∃ T' cap', e = .returned (.slice T' (threadOf xs n).length cap') ∧ OwnI w' w.heap.size T' cap' (threadOf xs n) ∧ Below w.heap.size w w' := by
  by_cases hv : pvB xs = true
  · by_cases hn : inB n 0 ((xs.length : Int) - 1) = true
    · obtain ⟨h0, h1⟩ := inB_at hn
      obtain ⟨m, rfl⟩ := Int.eq_ofNat_of_zero_le h0
      have hm : m < xs.length := by omega
      rw [threadOf_yes hv hm]
      exact specThreadOf_yes xs hv (Pv.of hv).1 A cap xs.length m w B hm (by omega) hB h
    · exact specThreadOf_no A cap xs n w B h hl (.inr (by simpa using hn))
  · exact specThreadOf_no A cap xs n w B h hl (.inl (by simpa using hv))
theorem threadOf_len (xs : List Int) (n : Int) : (threadOf xs n).length ≤ 1048576 := by
  unfold threadOf
  split
  · next h =>
    have h1 := thread_len xs xs.length n.toNat (by omega)
    have h2 := tb_le (Pv.of h.1).1 n.toNat
    omega
  · simp
end Go.Proofs.Ytnaiopbealnpmaa
