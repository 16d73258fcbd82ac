import Derived.Test.YtnaiopbealnpmaaDrawPosts
import Derived.Test.YtnaiopbealnpmaaDrop
import Derived.Test.YtnaiopbealnpmaaWords
import Derived.Test.YtnaiopbealnpmaaPostsLaws
namespace Go.Proofs.Ytnaiopbealnpmaa
open Go.RowKit PP
theorem FnPostsValid_walk (A : Option Addr) (cap : Nat) (cs : List Int) (w : World) (h : Rd w w.heap.size 1 A cs.length (fun j => .int .u8 (at_ cs j))) (hc : cs.length ≤ cap) (_ : cap ≤ maxLen) (hwf : ∀ n ∈ cs, (Lit.int .u8 n).wf = true) :
    Calls Try.prog 7 #[.slice A cs.length cap] w fun e w' => e = .returned (.bool true) ∧ Below w.heap.size w w' := by
  by_cases hs : cs.length ≤ 1048576
  · have hd : decide (1048576 < (cs.length : Int)) = false := by simp; omega
    have hbyte := Lib.hid (byte_bounds hwf)
    clear hwf
    go_enter Try.func7, Try.ntmps7
    go_wp2_with fail
    refine (DrawPostsValid_any A cap _ cs w h (Nat.le_refl _) hbyte.out hc hs).mono ?_
    rintro e w1 ⟨T, cap', xs, rfl, hx, hown, hb1⟩
    have hrd := hown.rd
    have hxl : xs.length ≤ 140737488351232 := by omega
    have hmore := pvB_more xs
    have hbs := bne_self (pvB xs)
    have hs1 := hb1.size
    go_wp2_with fail
    refine (implPostsValid_any _ _ _ xs _ hrd hxl).mono ?_
    rintro e w' ⟨rfl, rfl⟩
    go_wp2_with fail
    refine (specPostsValid_any _ _ _ xs _ hrd hxl).mono ?_
    rintro e w' ⟨rfl, rfl⟩
    have hemp : Own (w1.alloc (.cells #[] 3)) w1.heap.size 3 1 (some ⟨w1.heap.size, 0, none⟩) 0 0 (cI []) := Own.lit w1 3 1 0 #[] (cI []) (Nat.zero_le _) rfl
    have hba : Below w1.heap.size w1 (w1.alloc (.cells #[] 3)) := (Below.refl _ _).alloc (Nat.le_refl _) _
    go_wp2_with (first
      | (at_builtin; refine wpList_app rfl (.tmp 16) (.tmp 17) _ rfl w1.heap.size 3 (.int .i64 0) 1 8 Try.underlying22 info_int rfl (by omega) (some ⟨w1.heap.size, 0, none⟩) T 0 0 xs.length cap' w1.heap.size (cI []) (cI xs) rfl rfl hemp (hrd.alloc (Nat.le_refl _) _) (fun _ _ => rfl) (by simp only [maxLen]; omega) (by omega) (by simp) ?_; intro T1 cap1 w2 hown2 hg2; have hb2 : Below w1.heap.size w1 w2 := hba.trans (grown_below hg2 (fun b hb => (hemp.lt hb).1) (by simp)); have hown2' : OwnI w2 w1.heap.size T1 cap1 xs := Own.congr (n := 0 + xs.length) hown2 (fun j _ => by simp) |> (fun h => by unfold OwnI; rw [Nat.zero_add] at h; exact h); clear hown2 hg2)
      | (at_builtin; refine wpList_app rfl (.tmp 18) (.tmp 21) _ rfl w1.heap.size 3 (.int .i64 0) 1 8 Try.underlying22 info_int rfl (by omega) T1 (some ⟨w2.heap.size, 0, none⟩) xs.length cap1 1 1 (w2.heap.size + 1) (cI xs) (fun _ => .int .i64 xs.length) (by simp [go_sem]) rfl (Own.below hown2' ((Below.refl _ _).alloc (Nat.le_refl _) _)) (rd_one _ _ _) (fun _ _ => rfl) (by simp only [maxLen]; omega) (by omega) (by have := hb2.size; simp; omega) ?_; intro T3 cap3 w3 hown3 hg3))
    have hown4 : OwnI w3 w1.heap.size T3 cap3 (xs ++ [(xs.length : Int)]) := OwnI.snoc hown3
    have hs2 := hb2.size
    have hb3 : Below w1.heap.size w1 w3 := hb2.trans (((Below.refl _ _).alloc hs2 _).trans (grown_below hg3 (fun b hb => (hown2'.lt hb).1) (by simp; omega)))
    have hrd3 := hrd.below hb3
    have hbw := hb1.trans (hb3.mono hs1)
    have hcall := implPostsValid_any T3 cap3 _ (xs ++ [(xs.length : Int)]) w3 hown4.rd (by simp; omega)
    rw [List.length_append, show [(xs.length : Int)].length = 1 from rfl, hmore] at hcall
    refine hcall.mono ?_
    clear hcall
    rintro e w' ⟨rfl, rfl⟩
    by_cases hv : pvB xs = true
    · have htk := pvB_take hv (xs.length / 2)
      have hlt : (xs.take (xs.length / 2)).length = xs.length / 2 := by simp; omega
      rcases hown.shape with ⟨rfl, h0, rfl⟩ | ⟨b, rfl, _, _, hcp, _⟩
      · have hx0 : xs = [] := List.eq_nil_of_length_eq_zero h0
        subst hx0
        go_wp2_with (first
          | (go_at_call 15; refine (implPostsValid_any none 0 0 [] w3 RdI.nil (by simp)).mono ?_; rintro e w' ⟨rfl, rfl⟩)
          | (go_at_call 26; refine (alive_any _).mono ?_; rintro e w' ⟨rfl, rfl⟩))
        go_ret
        exact ⟨rfl, hbw⟩
      · have hq0 : (0 : Int) ≤ (xs.length : Int) / 2 := by omega
        have hq1 : ((xs.length : Int) / 2).toNat = xs.length / 2 := by omega
        have hq2 : (xs.length : Int) / 2 ≤ cap' := by omega
        have hrt : RdI w3 w1.heap.size (some ⟨b, 0, none⟩) (xs.take (xs.length / 2)) := hrd3.take _
        have hcall := implPostsValid_any (some ⟨b, 0, none⟩) cap' _ (xs.take (xs.length / 2)) w3 hrt (by omega)
        rw [hlt, htk] at hcall
        have HC := Lib.hid hcall
        clear hcall hlt htk hmore
        go_wp2_with (first
          | (go_at_call 15; refine (HC.out).mono ?_; rintro e w' ⟨rfl, rfl⟩)
          | (go_at_call 26; refine (alive_any _).mono ?_; rintro e w' ⟨rfl, rfl⟩))
        go_ret
        exact ⟨rfl, hbw⟩
    · have hv' : pvB xs = false := by simpa using hv
      clear hv
      go_wp2_with (go_at_call 26; refine (alive_any _).mono ?_; rintro e w' ⟨rfl, rfl⟩)
      go_ret
      exact ⟨rfl, hbw⟩
  · have hd : decide (1048576 < (cs.length : Int)) = true := by simp; omega
    go_enter Try.func7, Try.ntmps7
    go_wp2
    go_ret
    exact ⟨rfl, Below.refl _ _⟩
end Go.Proofs.Ytnaiopbealnpmaa
