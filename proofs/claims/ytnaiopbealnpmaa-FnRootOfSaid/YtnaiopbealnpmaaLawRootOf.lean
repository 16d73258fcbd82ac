import Derived.Test.YtnaiopbealnpmaaDrawPosts
import Derived.Test.YtnaiopbealnpmaaDrop
import Derived.Test.YtnaiopbealnpmaaWords
import Derived.Test.YtnaiopbealnpmaaPostsLaws
namespace Go.Proofs.Ytnaiopbealnpmaa
open Go.RowKit PP
theorem FnRootOf_walk (A : Option Addr) (cap : Nat) (cs : List Int) (w : World) (h : Rd w w.heap.size 1 A cs.length (fun j => .int .u8 (at_ cs j))) (hc : cs.length ≤ cap) (_ : cap ≤ maxLen) (hwf : ∀ n ∈ cs, (Lit.int .u8 n).wf = true) :
    Calls Try.prog 9 #[.slice A cs.length cap] w fun e w' => e = .returned (.bool true) ∧ Below w.heap.size w w' := by
  by_cases hs : cs.length ≤ 1048576
  · have hd : decide (1048576 < (cs.length : Int)) = false := by simp; omega
    have hbyte := Lib.hid (byte_bounds hwf)
    clear hwf
    go_enter Try.func9, Try.ntmps9
    go_wp2_with fail
    refine (DrawRootOf_any A cap _ cs w h (Nat.le_refl _) hbyte.out hc hs).mono ?_
    rintro e w1 ⟨T, cap', xs, n, rfl, hx, hown, hb1, hn1, hn2⟩
    have hrd := hown.rd
    have hxl : xs.length ≤ 140737488351232 := by omega
    have hs1 := hb1.size
    by_cases hroot : 0 ≤ rootOf xs n
    · obtain ⟨m, r, rfl, hm, hv, hr, hrl, hrat, hrr, hup⟩ := rootOf_idem hroot
      clear hroot
      have hbs : ((rootOf xs m) != (rootOf xs m)) = false := by simp
      have HUP := Lib.hid hup
      have hrr2 : (((r : Int)) == (r : Int)) = true := by simp
      obtain ⟨b, off, hT, hb, hc⟩ := hrd.at_ (by omega)
      have hcr := hc r hrl
      have hcm := hc m hm
      rw [hrat] at hcr
      clear hc hup
      subst hT
      by_cases hup0 : 0 ≤ at_ xs m
      · have hd1 : decide (at_ xs m < 0) = false := by simp; omega
        have hup1 : (rootOf xs (at_ xs m) == (r : Int)) = true := by rw [HUP.out hup0]; simp
        have HR := Lib.hid hr
        have HA := Lib.hid hrat
        clear hr hrat
        go_wp2_with fail
        refine (implRootOf_any _ _ _ xs _ _ hrd hxl).mono ?_
        rintro e w' ⟨rfl, rfl⟩
        go_wp2_with fail
        refine (specRootOf_any _ _ _ xs _ _ hrd hxl).mono ?_
        rintro e w' ⟨rfl, rfl⟩
        have hr := HR.out
        go_wp2_with (go_at_call 18; refine (implRootOf_any _ _ _ xs _ _ hrd hxl).mono ?_; rintro e w' ⟨rfl, rfl⟩)
        go_ret
        exact ⟨rfl, hb1⟩
      · have hd1 : decide (at_ xs m < 0) = true := by simp; omega
        have HR := Lib.hid hr
        have HA := Lib.hid hrat
        clear hr hrat
        go_wp2_with fail
        refine (implRootOf_any _ _ _ xs _ _ hrd hxl).mono ?_
        rintro e w' ⟨rfl, rfl⟩
        go_wp2_with fail
        refine (specRootOf_any _ _ _ xs _ _ hrd hxl).mono ?_
        rintro e w' ⟨rfl, rfl⟩
        have hr := HR.out
        go_wp2_with (go_at_call 18; refine (implRootOf_any _ _ _ xs _ _ hrd hxl).mono ?_; rintro e w' ⟨rfl, rfl⟩)
        go_ret
        exact ⟨rfl, hb1⟩
    · have hr : rootOf xs n = -1 := by
        unfold rootOf at hroot ⊢
        split at hroot
        · omega
        · rw [if_neg ‹_›]
      have HR := Lib.hid hr
      have hbs : ((rootOf xs n) != (rootOf xs n)) = false := by simp
      clear hr hroot
      go_wp2_with fail
      refine (implRootOf_any _ _ _ xs n _ hrd hxl).mono ?_
      rintro e w' ⟨rfl, rfl⟩
      go_wp2_with fail
      refine (specRootOf_any _ _ _ xs n _ hrd hxl).mono ?_
      rintro e w' ⟨rfl, rfl⟩
      have hr := HR.out
      go_wp2_with (go_at_call 26; refine (alive_any _).mono ?_; rintro e w' ⟨rfl, rfl⟩)
      go_ret
      exact ⟨rfl, hb1⟩
  · have hd : decide (1048576 < (cs.length : Int)) = true := by simp; omega
    go_enter Try.func9, Try.ntmps9
    go_wp2
    go_ret
    exact ⟨rfl, Below.refl _ _⟩
end Go.Proofs.Ytnaiopbealnpmaa
