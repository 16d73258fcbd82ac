import Derived.Test.YtnaiopbealnpmaaDrawPosts
import Derived.Test.YtnaiopbealnpmaaDrop
import Derived.Test.YtnaiopbealnpmaaWords
import Derived.Test.YtnaiopbealnpmaaPostsLaws
namespace Go.Proofs.Ytnaiopbealnpmaa
open Go.RowKit PP
theorem FnDropPost_walk (A : Option Addr) (cap : Nat) (cs : List Int) (w : World) (h : Rd w w.heap.size 1 A cs.length (fun j => .int .u8 (at_ cs j))) (hc : cs.length ≤ cap) (_ : cap ≤ maxLen) (hwf : ∀ n ∈ cs, (Lit.int .u8 n).wf = true) :
    Calls Try.prog 12 #[.slice A cs.length cap] w fun e w' => e = .returned (.bool true) ∧ Below w.heap.size w w' := by
  by_cases hs : cs.length ≤ 1048576
  · have hd : decide (1048576 < (cs.length : Int)) = false := by simp; omega
    have hbyte := Lib.hid (byte_bounds hwf)
    clear hwf
    go_enter Try.func12, Try.ntmps12
    go_wp2_with fail
    refine (DrawDropPost_any A cap _ cs w h (Nat.le_refl _) hbyte.out hc hs).mono ?_
    rintro e w1 ⟨T, cap', xs, n, rfl, hx, hown, hb1, hn1, hn2⟩
    have hrd := hown.rd
    have hxl : xs.length ≤ 140737488351232 := by omega
    have hs1 := hb1.size
    have hself := eqB_self (dropOf xs n)
    have hok := bne_self (dropOk xs n)
    have hRl := dropOf_len xs n
    go_wp2_with fail
    refine (implDropPost_any _ _ xs n _ _ hrd (Nat.le_refl _) hxl).mono ?_
    rintro e w2 ⟨T2, cap2, rfl, ho2, hb2⟩
    have hs2 := hb2.size
    have hrd2 := hrd.below hb2
    go_wp2_with fail
    refine (specDropPost_any _ _ xs n _ _ hrd2 (by omega) hxl).mono ?_
    rintro e w3 ⟨T3, cap3, rfl, ho3, hb3⟩
    have hs3 := hb3.size
    have hrd3 := hrd2.below (hb3.mono (by omega))
    have ho2_3 := (OwnI.rd ho2).below hb3
    have hc3 : Below w.heap.size w w3 := (hb1.trans (hb2.mono (by omega))).trans (hb3.mono (by omega))
    go_wp2_with fail
    refine (sameInts_any _ _ _ _ _ _ _ _ (ho2_3.more hs3) (OwnI.rd ho3) (by omega) (by omega)).mono ?_
    rintro e w' ⟨rfl, n4, rfl⟩
    have hrd4 : RdI (w3.drewN n4) w3.heap.size T xs := (hrd3.more (by omega))
    have hx4 : RdI (w3.drewN n4) w3.heap.size T2 (dropOf xs n) := (ho2_3.more hs3)
    by_cases hval : pvB xs = true ∧ 0 ≤ n ∧ n < xs.length
    · obtain ⟨hv, h0, h1⟩ := hval
      obtain ⟨m, rfl⟩ := Int.eq_ofNat_of_zero_le h0
      have hm : m < xs.length := by omega
      have hp := Pv.of hv
      obtain ⟨hd1, hd2⟩ := dropOf_yes hv hm
      rw [hd1] at hRl hx4 hself ⊢
      rw [hd2] at hok ⊢
      have hXv := drop_valid hp hm
      obtain ⟨hXl, _⟩ := dropTo_at xs m xs.length hm
      have HC := Lib.hid (drop_cnt hp hm xs.length (Nat.le_refl _))
      have HL := Lib.hid hXl
      have hXb : (dropTo xs m xs.length).length ≤ 20 := by omega
      clear hd1 hd2 hXl h0 h1 hv
      have HV := Lib.hid hp
      clear hp
      generalize dropTo xs m xs.length = X at *
      go_wp2_with fail
      go_loopw [9, 11, 12] (fun p q i wr => ∃ k : Nat, k ≤ xs.length ∧ p = .int .i64 (cnt xs (-1) k) ∧ q = .int .i64 (cnt xs m k) ∧ i = .int .i64 k ∧ wr = w3.drewN n4) (fun _ _ i _ => xs.length - (intOf i).toNat)
      case atStart => exact ⟨0, by omega, rfl, rfl, rfl, rfl⟩
      case round =>
        obtain ⟨k, hk, rfl, rfl, rfl, rfl⟩ := hrel
        have hl1 := cnt_le xs (-1) k
        have hl2 := cnt_le xs m k
        by_cases hlt : k < xs.length
        · obtain ⟨b, off, rfl, hb, hc⟩ := hrd4.at_ (by omega)
          have hck := hc k hlt
          clear hc
          by_cases hA : at_ xs k = -1
          · have q1 : (at_ xs k == -1) = true := by simp [hA]
            have q2 : (at_ xs k == (m : Int)) = false := by rw [beq_eq_false_iff_ne]; omega
            have HA := Lib.hid hA
            clear hA
            go_wp2_with fail
            go_roundw
            case rel => exact ⟨k + 1, by omega, by rw [cnt_yes HA.out]; go_num, by rw [cnt_no (by have := HA.out; omega)], by go_num, trivial⟩
            case measure => simp [intOf]; omega
          · have q1 : (at_ xs k == -1) = false := by rw [beq_eq_false_iff_ne]; exact hA
            by_cases hB : at_ xs k = m
            · have q2 : (at_ xs k == (m : Int)) = true := by simp [hB]
              have HA := Lib.hid hA
              have HB := Lib.hid hB
              clear hA hB
              go_wp2_with fail
              go_roundw
              case rel => exact ⟨k + 1, by omega, by rw [cnt_no HA.out], by rw [cnt_yes HB.out]; go_num, by go_num, trivial⟩
              case measure => simp [intOf]; omega
            · have q2 : (at_ xs k == (m : Int)) = false := by rw [beq_eq_false_iff_ne]; exact hB
              have HA := Lib.hid hA
              have HB := Lib.hid hB
              clear hA hB
              go_wp2_with fail
              go_roundw
              case rel => exact ⟨k + 1, by omega, by rw [cnt_no HA.out], by rw [cnt_no HB.out], by go_num, trivial⟩
              case measure => simp [intOf]; omega
        · obtain rfl : k = xs.length := by omega
          go_wp2_with fail
          go_loopw [10, 13] (fun p i wr => ∃ k : Nat, k ≤ X.length ∧ p = .int .i64 (cnt X (-1) k) ∧ i = .int .i64 k ∧ wr = w3.drewN n4) (fun _ i _ => X.length - (intOf i).toNat)
          case atStart => exact ⟨0, by omega, rfl, rfl, rfl⟩
          case round =>
            obtain ⟨k, hk, rfl, rfl, rfl⟩ := hrel
            have hl3 := cnt_le X (-1) k
            by_cases hlt : k < X.length
            · obtain ⟨b, off, rfl, hb, hc⟩ := hx4.at_ (by omega)
              have hck := hc k hlt
              clear hc
              by_cases hA : at_ X k = -1
              · have q1 : (at_ X k == -1) = true := by simp [hA]
                have HA := Lib.hid hA
                clear hA
                go_wp2_with fail
                go_roundw
                case rel => exact ⟨k + 1, by omega, by rw [cnt_yes HA.out]; go_num, by go_num, trivial⟩
                case measure => simp [intOf]; omega
              · have q1 : (at_ X k == -1) = false := by rw [beq_eq_false_iff_ne]; exact hA
                have HA := Lib.hid hA
                clear hA
                go_wp2_with fail
                go_roundw
                case rel => exact ⟨k + 1, by omega, by rw [cnt_no HA.out], by go_num, trivial⟩
                case measure => simp [intOf]; omega
            · obtain rfl : k = X.length := by omega
              obtain ⟨b, off, rfl, hb, hc⟩ := hrd4.at_ (by omega)
              have hcm := hc m hm
              clear hc
              have r1 : ((X.length : Int) == (xs.length : Int) - 1) = true := by have := HL.out; rw [beq_iff_eq]; omega
              by_cases hA : at_ xs m = -1
              · have q1 : (at_ xs m == -1) = true := by simp [hA]
                have r2 : ((cnt X (-1) X.length : Int) == (cnt xs (-1) xs.length : Int) - 1 + (cnt xs m xs.length : Int)) = true := by
                  have := HC.out
                  rw [if_pos ⟨hm, hA⟩, if_pos hA] at this
                  rw [beq_iff_eq]; omega
                clear hA
                go_wp2_with (go_at_call 15; refine (implPostsValid_any _ _ _ X _ hx4 (by omega)).mono ?_; rintro e w' ⟨rfl, rfl⟩)
                go_ret
                exact ⟨rfl, below_drewN hc3 n4⟩
              · have q1 : (at_ xs m == -1) = false := by rw [beq_eq_false_iff_ne]; exact hA
                have r2 : ((cnt X (-1) X.length : Int) == (cnt xs (-1) xs.length : Int)) = true := by
                  have := HC.out
                  rw [if_neg (fun h => hA h.2), if_neg hA] at this
                  rw [beq_iff_eq]; omega
                have r3 : (cnt X (-1) X.length == cnt xs (-1) xs.length) = true := by rw [beq_iff_eq] at r2 ⊢; omega
                clear hA
                go_wp2_with (go_at_call 15; refine (implPostsValid_any _ _ _ X _ hx4 (by omega)).mono ?_; rintro e w' ⟨rfl, rfl⟩)
                go_ret
                exact ⟨rfl, below_drewN hc3 n4⟩
    · obtain ⟨hd1, hd2⟩ : dropOf xs n = [] ∧ dropOk xs n = false := dropOf_no (by
        by_cases h1 : pvB xs = true
        · right
          by_cases h2 : 0 ≤ n
          · right
            by_cases h3 : n < xs.length
            · exact absurd ⟨h1, h2, h3⟩ hval
            · omega
          · left; omega
        · left; simpa using h1)
      have hl0 : (((dropOf xs n).length : Int) == 0) = true := by rw [hd1]; rfl
      clear hd1
      go_wp2_with (go_at_call 26; refine (alive_any _).mono ?_; rintro e w' ⟨rfl, rfl⟩)
      go_ret
      exact ⟨rfl, below_drewN hc3 n4⟩
  · have hd : decide (1048576 < (cs.length : Int)) = true := by simp; omega
    go_enter Try.func12, Try.ntmps12
    go_wp2
    go_ret
    exact ⟨rfl, Below.refl _ _⟩
end Go.Proofs.Ytnaiopbealnpmaa
