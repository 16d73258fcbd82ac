/- The draws of FnLiveItems. -/
import Derived.Test.YtnplpllhochlfaaDrawFeed
import Derived.Test.YtnplpllhochlfaaDrawTombs
namespace Go.Proofs.Ytnplpllhochlfaa
open Go.RowKit
def DrawnLv (w : World) (e : Ending) (w' : World) : Prop := ∃ (A : Option Addr) (cap : Nat) (xs : List ElItem) (T : Option Addr) (capT : Nat) (ts : List ElTomb) (now : Int), e = .returned (.tuple #[.slice A xs.length cap, .slice T ts.length capT, .int .i64 now]) ∧ xs.length ≤ 7 ∧ (∀ x ∈ xs, x.1.size ≤ 81 ∧ x.2.1.size ≤ 81 ∧ x.2.2.1.size ≤ 81) ∧ ts.length ≤ 9 ∧ (∀ k, k < ts.length → (gt ts k).1.size ≤ maxLen) ∧ 0 ≤ now ∧ now ≤ 512 ∧ OwnE 4 encItem 34 w' w.heap.size A cap xs ∧ SubE 2 encTomb 54 w' w.heap.size T capT ts ∧ Below w.heap.size w w'
set_option maxHeartbeats 800000 in
theorem DrawLiveItems_any (A : Option Addr) (cap B : Nat) (cs : List Int) (w : World) (h : RdU w B A cs) (hB : B ≤ w.heap.size) (hb : ∀ j, 0 ≤ PP.at_ cs j ∧ PP.at_ cs j ≤ 255) (hc : cs.length ≤ cap) (hl : cs.length ≤ 1048576) :
    Calls Try.prog 5 #[.slice A cs.length cap] w (DrawnLv w) := by
  go_enter Try.func5, Try.ntmps5
  go_wp2_with fail
  refine (l20Open_any A cap B cs w h hB hb hc hl).mono ?_
  rintro e w1 ⟨rfl, hr1, hb1⟩
  have hlt := hr1.lt
  have hs1 := hb1.size
  go_wp2_with fail
  refine (l20Feed_any _ 0 _ _ hr1 (by omega) (by omega) (by omega)).mono ?_
  rintro e w2 ⟨R, cR, xs, rfl, hx, hsx, hox, hr2, hg2⟩
  have HX := Lib.hid hsx
  clear hsx
  have hs2 := hg2.size
  go_wp2_with fail
  refine (l20Tombs_any _ _ _ _ hr2 (by omega) (by omega) (by omega)).mono ?_
  rintro e w3 ⟨T, cT, ts, rfl, ht, hst, hot, hr3, hg3⟩
  have HT := Lib.hid hst
  clear hst
  have hs3 := hg3.size
  have hox3 := keptI hox hg3 hlt
  have hb3 := below_of_only (below_of_only hb1 hg2 (Nat.le_refl _)) hg3 (Nat.le_refl _)
  go_wp2_with fail
  refine (pick_any _ _ _ _ hr3 (by omega)).mono ?_
  rintro e w4 ⟨p, rfl, hp0, hp1, hr4, hg4⟩
  have hp2 : p ≤ 256 := by omega
  go_wp2_with fail
  refine (pick_any _ _ _ _ hr4 (by omega)).mono ?_
  rintro e w5 ⟨q, rfl, hq0, hq1, hr5, hg5⟩
  have hq2 : q ≤ 256 := by omega
  go_wp2_with fail
  go_ret3
  exact ⟨R, cR, xs, T, cT, ts, p + q, rfl, hx, HX.out, ht, HT.out, by omega, by omega, Own.more (keptI (keptI hox3 hg4 hlt) hg5 hlt) hs1, Sub.more ((hot.keptG hg4 (by omega)).keptG hg5 (by omega)) (by omega), below_of_only (below_of_only hb3 hg4 (Nat.le_refl _)) hg5 (Nat.le_refl _)⟩
end Go.Proofs.Ytnplpllhochlfaa
