/- The draws of a day. -/
import Derived.Test.YtfnmlffpnmmcdaaReader
import Derived.Test.YtfnmlffpnmmcdaaDrawKit
namespace Go.Proofs.Ytfnmlffpnmmcdaa
open Go.RowKit
/-- A day drawn. -/
def DrewDay (g m : Nat) (w : World) (e : Ending) (w' : World) : Prop := ∃ d : Int, e = .returned (.int .i64 d) ∧ 0 ≤ d ∧ d ≤ 1460969 ∧ Rdr w' g m ∧ w.grownBy w' (some g)
set_option maxHeartbeats 1600000 in
theorem l20Day_any (g m : Nat) (w : World) (h : Rdr w g m) (hm : m ≤ 1000000) : Calls Try.prog 55 #[.pointer (some ⟨g, 0, none⟩)] w (DrewDay g (m + 4) w) := by
  have hlt := h.lt
  go_enter Try.func55, Try.ntmps55
  go_wp2_with fail
  refine (pick_any g _ _ _ h (by omega)).mono ?_
  rintro e w1 ⟨a, rfl, ha0, ha1, hr1, hg1⟩
  go_wp2_with fail
  refine (pick_any g _ _ _ hr1 (by omega)).mono ?_
  rintro e w2 ⟨b, rfl, hb0, hb1, hr2, hg2⟩
  go_wp2_with fail
  refine (pick_any g _ _ _ hr2 (by omega)).mono ?_
  rintro e w3 ⟨c, rfl, hc0, hc1, hr3, hg3⟩
  have ha2 : a ≤ 255 := by omega
  have hb2 : b ≤ 255 := by omega
  have hc2 : c ≤ 2 := by omega
  have hg13 := (hg1.trans hg2).trans hg3
  have hs3 := hg13.size
  have hgA : w.grownBy ((w3.alloc (.cells #[.int .i64 (738000 + a * 7), .int .i64 (b * 5000), .int .i64 0, .int .i64 (1460969 - c)] 3)).alloc (.cells #[.int .i64 0, .int .i64 0, .int .i64 0, .int .i64 1, .int .i64 2, .int .i64 3] 3)) (some g) := only_alloc w (some g) (only_alloc w (some g) hg13 _) _
  have hrA := (hr3.alloc (.cells #[.int .i64 (738000 + a * 7), .int .i64 (b * 5000), .int .i64 0, .int .i64 (1460969 - c)] 3)).alloc (.cells #[.int .i64 0, .int .i64 0, .int .i64 0, .int .i64 1, .int .i64 2, .int .i64 3] 3)
  have hz1 : w3.heap.size < ((w3.alloc (.cells #[.int .i64 (738000 + a * 7), .int .i64 (b * 5000), .int .i64 0, .int .i64 (1460969 - c)] 3)).alloc (.cells #[.int .i64 0, .int .i64 0, .int .i64 0, .int .i64 1, .int .i64 2, .int .i64 3] 3)).heap.size := by simp; omega
  have hz2 : w3.heap.size + 1 < ((w3.alloc (.cells #[.int .i64 (738000 + a * 7), .int .i64 (b * 5000), .int .i64 0, .int .i64 (1460969 - c)] 3)).alloc (.cells #[.int .i64 0, .int .i64 0, .int .i64 0, .int .i64 1, .int .i64 2, .int .i64 3] 3)).heap.size := by simp
  have t0 : ((w3.alloc (.cells #[.int .i64 (738000 + a * 7), .int .i64 (b * 5000), .int .i64 0, .int .i64 (1460969 - c)] 3)).alloc (.cells #[.int .i64 0, .int .i64 0, .int .i64 0, .int .i64 1, .int .i64 2, .int .i64 3] 3)).cell? ⟨w3.heap.size, 0, none⟩ = some (.int .i64 (738000 + a * 7)) := by
    rw [((Below.refl (w3.heap.size + 1) (w3.alloc (.cells #[.int .i64 (738000 + a * 7), .int .i64 (b * 5000), .int .i64 0, .int .i64 (1460969 - c)] 3))).alloc (by simp) _).cell (by show w3.heap.size < w3.heap.size + 1; omega), World.cell?_alloc_at _ _ _ _ rfl]; rfl
  have t1 : ((w3.alloc (.cells #[.int .i64 (738000 + a * 7), .int .i64 (b * 5000), .int .i64 0, .int .i64 (1460969 - c)] 3)).alloc (.cells #[.int .i64 0, .int .i64 0, .int .i64 0, .int .i64 1, .int .i64 2, .int .i64 3] 3)).cell? ⟨w3.heap.size, 1, none⟩ = some (.int .i64 (b * 5000)) := by
    rw [((Below.refl (w3.heap.size + 1) (w3.alloc (.cells #[.int .i64 (738000 + a * 7), .int .i64 (b * 5000), .int .i64 0, .int .i64 (1460969 - c)] 3))).alloc (by simp) _).cell (by show w3.heap.size < w3.heap.size + 1; omega), World.cell?_alloc_at _ _ _ _ rfl]; rfl
  have t2 : ((w3.alloc (.cells #[.int .i64 (738000 + a * 7), .int .i64 (b * 5000), .int .i64 0, .int .i64 (1460969 - c)] 3)).alloc (.cells #[.int .i64 0, .int .i64 0, .int .i64 0, .int .i64 1, .int .i64 2, .int .i64 3] 3)).cell? ⟨w3.heap.size, 2, none⟩ = some (.int .i64 (0)) := by
    rw [((Below.refl (w3.heap.size + 1) (w3.alloc (.cells #[.int .i64 (738000 + a * 7), .int .i64 (b * 5000), .int .i64 0, .int .i64 (1460969 - c)] 3))).alloc (by simp) _).cell (by show w3.heap.size < w3.heap.size + 1; omega), World.cell?_alloc_at _ _ _ _ rfl]; rfl
  have t3 : ((w3.alloc (.cells #[.int .i64 (738000 + a * 7), .int .i64 (b * 5000), .int .i64 0, .int .i64 (1460969 - c)] 3)).alloc (.cells #[.int .i64 0, .int .i64 0, .int .i64 0, .int .i64 1, .int .i64 2, .int .i64 3] 3)).cell? ⟨w3.heap.size, 3, none⟩ = some (.int .i64 (1460969 - c)) := by
    rw [((Below.refl (w3.heap.size + 1) (w3.alloc (.cells #[.int .i64 (738000 + a * 7), .int .i64 (b * 5000), .int .i64 0, .int .i64 (1460969 - c)] 3))).alloc (by simp) _).cell (by show w3.heap.size < w3.heap.size + 1; omega), World.cell?_alloc_at _ _ _ _ rfl]; rfl
  have u0 : ((w3.alloc (.cells #[.int .i64 (738000 + a * 7), .int .i64 (b * 5000), .int .i64 0, .int .i64 (1460969 - c)] 3)).alloc (.cells #[.int .i64 0, .int .i64 0, .int .i64 0, .int .i64 1, .int .i64 2, .int .i64 3] 3)).cell? ⟨w3.heap.size + 1, 0, none⟩ = some (.int .i64 0) := by rw [World.cell?_alloc_at _ _ _ _ (by simp)]; rfl
  have u1 : ((w3.alloc (.cells #[.int .i64 (738000 + a * 7), .int .i64 (b * 5000), .int .i64 0, .int .i64 (1460969 - c)] 3)).alloc (.cells #[.int .i64 0, .int .i64 0, .int .i64 0, .int .i64 1, .int .i64 2, .int .i64 3] 3)).cell? ⟨w3.heap.size + 1, 1, none⟩ = some (.int .i64 0) := by rw [World.cell?_alloc_at _ _ _ _ (by simp)]; rfl
  have u2 : ((w3.alloc (.cells #[.int .i64 (738000 + a * 7), .int .i64 (b * 5000), .int .i64 0, .int .i64 (1460969 - c)] 3)).alloc (.cells #[.int .i64 0, .int .i64 0, .int .i64 0, .int .i64 1, .int .i64 2, .int .i64 3] 3)).cell? ⟨w3.heap.size + 1, 2, none⟩ = some (.int .i64 0) := by rw [World.cell?_alloc_at _ _ _ _ (by simp)]; rfl
  have u3 : ((w3.alloc (.cells #[.int .i64 (738000 + a * 7), .int .i64 (b * 5000), .int .i64 0, .int .i64 (1460969 - c)] 3)).alloc (.cells #[.int .i64 0, .int .i64 0, .int .i64 0, .int .i64 1, .int .i64 2, .int .i64 3] 3)).cell? ⟨w3.heap.size + 1, 3, none⟩ = some (.int .i64 1) := by rw [World.cell?_alloc_at _ _ _ _ (by simp)]; rfl
  have u4 : ((w3.alloc (.cells #[.int .i64 (738000 + a * 7), .int .i64 (b * 5000), .int .i64 0, .int .i64 (1460969 - c)] 3)).alloc (.cells #[.int .i64 0, .int .i64 0, .int .i64 0, .int .i64 1, .int .i64 2, .int .i64 3] 3)).cell? ⟨w3.heap.size + 1, 4, none⟩ = some (.int .i64 2) := by rw [World.cell?_alloc_at _ _ _ _ (by simp)]; rfl
  have u5 : ((w3.alloc (.cells #[.int .i64 (738000 + a * 7), .int .i64 (b * 5000), .int .i64 0, .int .i64 (1460969 - c)] 3)).alloc (.cells #[.int .i64 0, .int .i64 0, .int .i64 0, .int .i64 1, .int .i64 2, .int .i64 3] 3)).cell? ⟨w3.heap.size + 1, 5, none⟩ = some (.int .i64 3) := by rw [World.cell?_alloc_at _ _ _ _ (by simp)]; rfl
  clear hg1 hg2 hg3 hr1 hr2 hr3
  go_wp2_with fail
  generalize ((w3.alloc (.cells #[.int .i64 (738000 + a * 7), .int .i64 (b * 5000), .int .i64 0, .int .i64 (1460969 - c)] 3)).alloc (.cells #[.int .i64 0, .int .i64 0, .int .i64 0, .int .i64 1, .int .i64 2, .int .i64 3] 3)) = wA at *
  refine (pick_any g _ _ _ hrA (by omega)).mono ?_
  rintro e w5 ⟨z, rfl, hz0, hz6, hr5, hg5⟩
  have hgF := hgA.trans hg5
  have s0 := (cell_stb hg5 (i := 0) (show g < w3.heap.size by omega) hz1).trans t0
  have s1 := (cell_stb hg5 (i := 1) (show g < w3.heap.size by omega) hz1).trans t1
  have s2 := (cell_stb hg5 (i := 2) (show g < w3.heap.size by omega) hz1).trans t2
  have s3 := (cell_stb hg5 (i := 3) (show g < w3.heap.size by omega) hz1).trans t3
  have v0 := (cell_stb hg5 (i := 0) (show g < w3.heap.size + 1 by omega) hz2).trans u0
  have v1 := (cell_stb hg5 (i := 1) (show g < w3.heap.size + 1 by omega) hz2).trans u1
  have v2 := (cell_stb hg5 (i := 2) (show g < w3.heap.size + 1 by omega) hz2).trans u2
  have v3 := (cell_stb hg5 (i := 3) (show g < w3.heap.size + 1 by omega) hz2).trans u3
  have v4 := (cell_stb hg5 (i := 4) (show g < w3.heap.size + 1 by omega) hz2).trans u4
  have v5 := (cell_stb hg5 (i := 5) (show g < w3.heap.size + 1 by omega) hz2).trans u5
  clear t0 t1 t2 t3 u0 u1 u2 u3 u4 u5 hgA hrA hg13
  rcases (by omega : z = 0 ∨ z = 1 ∨ z = 2 ∨ z = 3 ∨ z = 4 ∨ z = 5) with rfl | rfl | rfl | rfl | rfl | rfl
  all_goals
    go_wp2_with fail
    go_ret
    exact ⟨_, rfl, by omega, by omega, hr5.more (by omega), hgF⟩
end Go.Proofs.Ytfnmlffpnmmcdaa
