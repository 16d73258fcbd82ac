import Derived.Test.YtlldbgekbndohaaDoorCountA
namespace Go.Proofs.YtlldbgekbndohaaDoor
open Go.RowKit
set_option maxHeartbeats 400000 in
theorem FnExactManyWords_walk (s0 : ByteArray) (w : World) (hs0 : s0.size ≤ maxLen) (hT : SpTab w) : Calls Tryd.prog 3 #[.string s0] w fun e w' => e = .returned (.bool true) ∧ Below w.heap.size w w' := by
  have HT := Lib.hid hT
  clear hT
  have hbs : (wordsOf s0 != wordsOf s0) = false := by simp
  by_cases hz : s0.size ≤ 1048576
  · have dz : decide (1048576 < (s0.size : Int)) = false := decide_eq_false (by omega)
    go_enter Tryd.func3, Tryd.ntmps3
    go_wp2_with fail
    refine (specManyWords_any s0 w hs0).mono ?_
    rintro e w' ⟨rfl, rfl⟩
    go_wp2_with fail
    refine (implManyWords_any s0 w hs0 HT.out).mono ?_
    rintro e w' ⟨rfl, hb⟩
    go_wp2_with fail
    go_ret
    exact ⟨rfl, hb⟩
  · have dz : decide (1048576 < (s0.size : Int)) = true := decide_eq_true (by omega)
    go_enter Tryd.func3, Tryd.ntmps3
    go_wp2_with fail
    go_ret
    exact ⟨rfl, Below.refl _ _⟩
end Go.Proofs.YtlldbgekbndohaaDoor
