import Derived.Test.YtnaiopbealnpmaaDrawPosts
import Derived.Test.YtnaiopbealnpmaaDrop
import Derived.Test.YtnaiopbealnpmaaWords
import Derived.Test.YtnaiopbealnpmaaPostsLaws
namespace Go.Proofs.Ytnaiopbealnpmaa
open Go.RowKit PP
theorem FnDepthOf_walk (A : Option Addr) (cap : Nat) (cs : List Int) (w : World) (h : Rd w w.heap.size 1 A cs.length (fun j => .int .u8 (at_ cs j))) (hc : cs.length ≤ cap) (_ : cap ≤ maxLen) (hwf : ∀ n ∈ cs, (Lit.int .u8 n).wf = true) :
    Calls Try.prog 10 #[.slice A cs.length cap] w fun e w' => e = .returned (.bool true) ∧ Below w.heap.size w w' := by
  by_cases hs : cs.length ≤ 1048576
  · have hd : decide (1048576 < (cs.length : Int)) = false := by simp; omega
    have hbyte := Lib.hid (byte_bounds hwf)
    clear hwf
    go_enter Try.func10, Try.ntmps10
    go_wp2_with fail
    refine (DrawDepthOf_any A cap _ cs w h (Nat.le_refl _) hbyte.out hc hs).mono ?_
    rintro e w1 ⟨T, cap', xs, n, rfl, hx, hown, hb1, hn1, hn2⟩
    have hrd := hown.rd
    have hxl : xs.length ≤ 140737488351232 := by omega
    have hs1 := hb1.size
    have hbs : ((depthOf xs n) != (depthOf xs n)) = false := by simp
    by_cases hroot : 0 ≤ depthOf xs n
    · obtain ⟨m, rfl, hm, hlo, hcase⟩ := depthOf_up hroot
      obtain ⟨b, off, hT, hb, hc⟩ := hrd.at_ (by omega)
      have hcm := hc m hm
      clear hc
      subst hT
      rcases hcase with ⟨h0, h1⟩ | ⟨h0, h1, h2⟩
      · have q1 : (depthOf xs m == 0) = true := by simp [h0]
        have q2 : (at_ xs m == -1) = true := by simp [h1]
        clear h0 h1
        go_wp2_with fail
        refine (implDepthOf_any _ _ _ xs _ _ hrd hxl).mono ?_
        rintro e w' ⟨rfl, rfl⟩
        go_wp2_with fail
        refine (specDepthOf_any _ _ _ xs _ _ hrd hxl).mono ?_
        rintro e w' ⟨rfl, rfl⟩
        go_wp2_with fail
        go_ret
        exact ⟨rfl, hb1⟩
      · have q1 : (depthOf xs m == 0) = false := by simp; omega
        have q2 : (at_ xs m == -1) = false := by simp; omega
        have q3 : (depthOf xs (at_ xs m) == depthOf xs m - 1) = true := by simp [h2]
        have q4 : depthOf xs m ≤ 100 := by
          obtain ⟨k, hk⟩ : ∃ k : Nat, depthOf xs m = k ∧ k ≤ m := by
            unfold depthOf at hroot ⊢
            split
            · next hh =>
              simp only [Int.toNat_natCast]
              exact ⟨_, rfl, deep_le (Pv.of hh.1) _ _ hm⟩
            · next hh => rw [if_neg hh] at hroot; omega
          omega
        clear h2
        go_wp2_with fail
        refine (implDepthOf_any _ _ _ xs _ _ hrd hxl).mono ?_
        rintro e w' ⟨rfl, rfl⟩
        go_wp2_with fail
        refine (specDepthOf_any _ _ _ xs _ _ hrd hxl).mono ?_
        rintro e w' ⟨rfl, rfl⟩
        go_wp2_with (go_at_call 20; refine (implDepthOf_any _ _ _ xs _ _ hrd hxl).mono ?_; rintro e w' ⟨rfl, rfl⟩)
        go_ret
        exact ⟨rfl, hb1⟩
    · have hr : depthOf xs n = -1 := by
        unfold depthOf at hroot ⊢
        split at hroot
        · omega
        · rw [if_neg ‹_›]
      have HR := Lib.hid hr
      clear hr hroot
      go_wp2_with fail
      refine (implDepthOf_any _ _ _ xs n _ hrd hxl).mono ?_
      rintro e w' ⟨rfl, rfl⟩
      go_wp2_with fail
      refine (specDepthOf_any _ _ _ xs n _ hrd hxl).mono ?_
      rintro e w' ⟨rfl, rfl⟩
      have hr := HR.out
      go_wp2_with (go_at_call 26; refine (alive_any _).mono ?_; rintro e w' ⟨rfl, rfl⟩)
      go_ret
      exact ⟨rfl, hb1⟩
  · have hd : decide (1048576 < (cs.length : Int)) = true := by simp; omega
    go_enter Try.func10, Try.ntmps10
    go_wp2
    go_ret
    exact ⟨rfl, Below.refl _ _⟩
end Go.Proofs.Ytnaiopbealnpmaa
