import Derived.Test.YtnaiopbealnpmaaDrawPosts
import Derived.Test.YtnaiopbealnpmaaDrop
import Derived.Test.YtnaiopbealnpmaaWords
import Derived.Test.YtnaiopbealnpmaaPostsLaws
namespace Go.Proofs.Ytnaiopbealnpmaa
open Go.RowKit PP
theorem info_bool : (Try.prog.info? 4).map (fun i => (i.zero, i.size, i.bytes)) = some (some (.bool false), 1, 1) := by kernel_rfl
/-- Which posts are among the first k of Y? -/
def inF (Y : List Int) (k j : Nat) : Value := .bool (decide ((j : Int) ∈ Y.take k))
theorem at_mem {Y : List Int} {k : Nat} (h : k < Y.length) : at_ Y k ∈ Y := by
  unfold at_; rw [List.getElem?_eq_getElem h]; exact List.getElem_mem h
theorem take_snoc' {Y : List Int} {k : Nat} (h : k < Y.length) : Y.take (k + 1) = Y.take k ++ [at_ Y k] := by
  unfold at_; rw [List.take_succ_eq_append_getElem h, List.getElem?_eq_getElem h]; rfl
theorem not_mem_take {Y : List Int} (hn : Y.Nodup) {k : Nat} (h : k < Y.length) : at_ Y k ∉ Y.take k := by
  have h1 : (Y.take (k + 1)).Nodup := List.Nodup.sublist (List.take_sublist _ _) hn
  rw [take_snoc' h, List.nodup_append] at h1
  intro hm
  exact h1.2.2 _ hm _ (by simp) rfl
theorem inF_step {Y : List Int} {k v : Nat} (hv : at_ Y k = (v : Int)) (h : k < Y.length) (j : Nat) : (if j = v then Value.bool true else inF Y k j) = inF Y (k + 1) j := by
  unfold inF
  rw [take_snoc' h, hv]
  by_cases hj : j = v
  · subst hj; simp
  · rw [if_neg hj]
    have : (j : Int) ≠ v := by omega
    simp [this]
theorem decide_congr_of {p q : Prop} [Decidable p] [Decidable q] (h : p ↔ q) : decide p = decide q := decide_eq_decide.2 h
theorem FnThreadOf_walk (A : Option Addr) (cap : Nat) (cs : List Int) (w : World) (h : Rd w w.heap.size 1 A cs.length (fun j => .int .u8 (at_ cs j))) (hc : cs.length ≤ cap) (_ : cap ≤ maxLen) (hwf : ∀ n ∈ cs, (Lit.int .u8 n).wf = true) :
    Calls Try.prog 11 #[.slice A cs.length cap] w fun e w' => e = .returned (.bool true) ∧ Below w.heap.size w w' := by
  by_cases hs : cs.length ≤ 1048576
  · have hd : decide (1048576 < (cs.length : Int)) = false := by simp; omega
    have hbyte := Lib.hid (byte_bounds hwf)
    clear hwf
    go_enter Try.func11, Try.ntmps11
    go_wp2_with fail
    refine (DrawThreadOf_any A cap _ cs w h (Nat.le_refl _) hbyte.out hc hs).mono ?_
    rintro e w1 ⟨T, cap', xs, n, rfl, hx, hown, hb1, hn1, hn2⟩
    have hrd := hown.rd
    have hxl : xs.length ≤ 140737488351232 := by omega
    have hs1 := hb1.size
    have hself := eqB_self (threadOf xs n)
    have hRl := threadOf_len xs n
    go_wp2_with fail
    refine (implThreadOf_any _ _ xs n _ hrd hxl).mono ?_
    rintro e w2 ⟨T2, cap2, rfl, ho2, hb2⟩
    have hs2 := hb2.size
    have hrd2 := hrd.below hb2
    go_wp2_with fail
    refine (specThreadOf_any _ _ xs n _ _ hrd2 (by omega) hxl).mono ?_
    rintro e w3 ⟨T3, cap3, rfl, ho3, hb3⟩
    have hs3 := hb3.size
    have hrd3 := hrd2.below (hb3.mono (by omega))
    have ho2_3 := (OwnI.rd ho2).below hb3
    have hc3 : Below w.heap.size w w3 := (hb1.trans (hb2.mono (by omega))).trans (hb3.mono (by omega))
    go_wp2_with fail
    refine (sameInts_any _ _ _ _ _ _ _ _ (ho2_3.more hs3) (OwnI.rd ho3) (by omega) (by omega)).mono ?_
    rintro e w' ⟨rfl, n4, rfl⟩
    have hrd4 : RdI (w3.drewN n4) w3.heap.size T xs := (hrd3.more (by omega))
    have hx4 : RdI (w3.drewN n4) w3.heap.size T2 (threadOf xs n) := (ho2_3.more hs3)
    by_cases hval : pvB xs = true ∧ 0 ≤ n ∧ n < xs.length
    · obtain ⟨hv, h0, h1⟩ := hval
      obtain ⟨m, rfl⟩ := Int.eq_ofNat_of_zero_le h0
      have hm : m < xs.length := by omega
      have hp := Pv.of hv
      rw [threadOf_yes hv hm] at hRl hx4 hself ⊢
      have hIN := Lib.hid (fun (k : Nat) (hk : k < xs.length) => thread_in hp hm hk)
      have hRG := Lib.hid (fun (x : Int) (hx : x ∈ thread xs xs.length m) => thread_rng hp hm hx)
      have hND := Lib.hid (thread_nodup hp xs.length m hm (by omega))
      have hne : 0 < (thread xs xs.length m).length := by
        obtain ⟨f, hf⟩ : ∃ f, xs.length = f + 1 := ⟨xs.length - 1, by omega⟩
        rw [hf, thread_succ]; simp
      have hfst : at_ (thread xs xs.length m) 0 = m := by
        obtain ⟨f, hf⟩ : ∃ f, xs.length = f + 1 := ⟨xs.length - 1, by omega⟩
        rw [hf, thread_succ]; rfl
      have HF := Lib.hid hfst
      have HV := Lib.hid hp
      clear hp hfst h0 h1
      generalize thread xs xs.length m = Y at *
      have hmk := mk_run (P := Try.prog) 37 4 (.bool false) 1 1 Try.underlying37 info_bool xs.length (by omega) (by omega)
      simp only [Nat.mul_one] at hmk
      have hlen0 : ((Y.length : Int) == 0) = false := by rw [beq_eq_false_iff_ne]; omega
      go_wp2_with fail
      have hst : Own ((w3.drewN n4).alloc (.cells (madeCells #[.bool false] xs.length) 4)) w3.heap.size 4 1 (some ⟨w3.heap.size, 0, none⟩) xs.length xs.length (inF Y 0) :=
        Own.lit (w3.drewN n4) 4 1 xs.length _ _ (by simp only [maxLen]; omega) (by rw [toList_madeCells_one, Nat.mul_one]; apply List.ext_getElem <;> simp [inF])
      have hbl0 : Below w3.heap.size (w3.drewN n4) ((w3.drewN n4).alloc (.cells (madeCells #[.bool false] xs.length) 4)) := (Below.refl w3.heap.size (w3.drewN n4)).alloc (Nat.le_refl _) _
      go_loopw [7] (fun i wr => ∃ k : Nat, k ≤ Y.length ∧ i = .int .i64 k ∧ Own wr w3.heap.size 4 1 (some ⟨w3.heap.size, 0, none⟩) xs.length xs.length (inF Y k) ∧ Below w3.heap.size (w3.drewN n4) wr) (fun i _ => Y.length - (intOf i).toNat)
      case atStart => exact ⟨0, by omega, rfl, hst, hbl0⟩
      case round =>
        clear hst hbl0
        obtain ⟨k, hk, rfl, hin, hbl⟩ := hrel
        have hrd5 := hrd4.below hbl
        have hx5 := hx4.below hbl
        by_cases hlt : k < Y.length
        · obtain ⟨b2, o2, rfl, hb2', hc2⟩ := hx5.at_ (by omega)
          have hck := hc2 k hlt
          have hmem := at_mem hlt
          obtain ⟨hy0, hy1⟩ := hRG.out _ hmem
          obtain ⟨v, hv'⟩ := Int.eq_ofNat_of_zero_le hy0
          rw [hv'] at hck hmem hy1
          have hvl : v < xs.length := by omega
          have hnot := not_mem_take (hND.out) hlt
          rw [hv'] at hnot
          have hcv := hin.cell rfl (j := v) (by omega)
          have hfv := hin.frozen rfl v
          have hst' := hin.set rfl (j := v) (.bool true)
          have hfa : inF Y k v = .bool false := by unfold inF; rw [decide_eq_false hnot]
          rw [hfa] at hcv
          have HS := Lib.hid hst'
          have HVV := Lib.hid hv'
          clear hc2 hst' hfa hv' hin hx5 hrd5 hnot hmem hy0
          go_wp2_with fail
          go_roundw
          case rel => exact ⟨k + 1, by omega, by go_num, Own.congr HS.out.1 (fun j _ => inF_step HVV.out hlt j), hbl.trans (grown_below HS.out.2 (fun b hb => by simp [blk] at hb; omega) hbl.size)⟩
          case measure => simp [intOf]; omega
        · obtain rfl : k = Y.length := by omega
          obtain ⟨wo, rfl⟩ : ∃ wo : World, wo = wr := ⟨_, rfl⟩
          have hin' : ∀ j, j < xs.length → wo.cell? ⟨w3.heap.size, j, none⟩ = some (.bool (decide ((j : Int) ∈ Y))) := fun j hj => by
            rw [hin.cell rfl (j := j) (by omega)]; simp [inF]
          have HI := Lib.hid hin'
          clear hin' hin
          go_wp2_with fail
          go_loopw [8] (fun i wr' => ∃ k n5 : Nat, k ≤ xs.length ∧ i = .int .i64 k ∧ wr' = wo.drewN n5) (fun i _ => xs.length - (intOf i).toNat)
          case atStart => exact ⟨0, 0, by omega, rfl, rfl⟩
          case round =>
            obtain ⟨k, n5, hk2, rfl, rfl⟩ := hrel
            by_cases hlt2 : k < xs.length
            · obtain ⟨b, off, rfl, hb, hc⟩ := hrd5.at_ (by omega)
              have hck := hc k hlt2
              have hck2 := HI.out k hlt2
              have hiff := hIN.out k hlt2
              have hhi := HV.out.hi hlt2
              clear hc
              by_cases hkm : k = m
              · subst hkm
                rw [decide_eq_true (hiff.2 (.inl rfl))] at hck2
                have q1 : ((k : Int) == (k : Int)) = true := by simp
                have q2 : (true != true) = false := rfl
                clear hiff
                go_wp2_with fail
                go_quiet (fail)
                go_wp2_with fail
                go_roundw
                case rel => exact ⟨k + 1, _, by omega, by go_num, rfl⟩
                case measure => simp [intOf]; omega
              · have q1 : ((k : Int) == (m : Int)) = false := by simp; omega
                by_cases h0 : 0 ≤ at_ xs k
                · obtain ⟨j, hj⟩ := Int.eq_ofNat_of_zero_le h0
                  have hcj := HI.out j (by omega)
                  rw [decide_congr_of (hiff.trans ⟨fun h => by rcases h with h | h; exact absurd h hkm; exact h.2, fun h => .inr ⟨h0, h⟩⟩), hj] at hck2
                  rw [hj] at hck
                  have q3 : decide (0 ≤ (j : Int)) = true := by simp
                  have hjl : j < xs.length := by omega
                  generalize decide ((j : Int) ∈ Y) = q at hck2 hcj
                  have q4 := bne_self q
                  clear hiff h0 hhi hj
                  go_wp2_with fail
                  go_quiet (fail)
                  go_wp2_with fail
                  go_roundw
                  case rel => exact ⟨k + 1, _, by omega, by go_num, rfl⟩
                  case measure => simp [intOf]; omega
                · have q3 : decide (0 ≤ at_ xs k) = false := by simp; omega
                  rw [decide_eq_false (fun h => by rcases hiff.1 h with h | h; exact absurd h hkm; exact h0 h.1)] at hck2
                  have q2 : (false != false) = false := rfl
                  clear hiff h0 hhi
                  go_wp2_with fail
                  go_quiet (fail)
                  go_wp2_with fail
                  go_roundw
                  case rel => exact ⟨k + 1, _, by omega, by go_num, rfl⟩
                  case measure => simp [intOf]; omega
            · obtain rfl : k = xs.length := by omega
              obtain ⟨b2, o2, rfl, hb2', hc2⟩ := hx5.at_ hne
              have hc0 := hc2 0 hne
              rw [HF.out, Nat.add_zero] at hc0
              have q1 : ((m : Int) == (m : Int)) = true := by simp
              clear hc2
              go_wp2_with fail
              go_ret
              exact ⟨rfl, below_drewN ((below_drewN hc3 n4).trans (hbl.mono (by omega))) _⟩
    · have hno : threadOf xs n = [] := by unfold threadOf; rw [if_neg hval]
      have hl0 : (((threadOf xs n).length : Int) == 0) = true := by rw [hno]; rfl
      clear hno
      go_wp2_with (go_at_call 26; refine (alive_any _).mono ?_; rintro e w' ⟨rfl, rfl⟩)
      go_ret
      exact ⟨rfl, below_drewN hc3 n4⟩
  · have hd : decide (1048576 < (cs.length : Int)) = true := by simp; omega
    go_enter Try.func11, Try.ntmps11
    go_wp2
    go_ret
    exact ⟨rfl, Below.refl _ _⟩
end Go.Proofs.Ytnaiopbealnpmaa
