import Derived.Test.YtlldbgekbndohaaDoorDrawText
namespace Go.Proofs.YtlldbgekbndohaaDoor
open Go.RowKit
theorem tab_cell2 {w w1 : World} {g : Nat} {cs : Array Value} {e : TypeId} {o : Obj} (hg : ((w.alloc (.cells cs e)).alloc o).grownBy w1 (some g)) (h : g < w.heap.size) (i : Nat) : w1.cell? ⟨w.heap.size, i, none⟩ = cs[i]? := by
  rw [World.cell?_of_block (w := (w.alloc (.cells cs e)).alloc o) (hg.block w.heap.size (by simp; omega) (fun e => by injection e; omega)), ((Below.refl (w.alloc (.cells cs e)).heap.size (w.alloc (.cells cs e))).alloc (Nat.le_refl _) o).cell (by simp), World.cell?_alloc_at _ _ _ _ rfl]
set_option maxHeartbeats 800000 in
theorem l20Spaced_any (g m : Nat) (w : World) (h : Rdr w g m) (hm : m ≤ 900000) :
    Calls Tryd.prog 12 #[.pointer (some ⟨g, 0, none⟩)] w (DrewS g (m + 20) 81 w) := by
  have hlt := h.lt
  go_enter Tryd.func12, Tryd.ntmps12
  go_wp2_with fail
  refine (pick_any g m _ _ h (by omega)).mono ?_
  rintro e w1 ⟨x, rfl, hx0, hx1, hr1, hg1⟩
  obtain ⟨y0, rfl⟩ := Int.eq_ofNat_of_zero_le hx0
  have hxb : y0 ≤ 8 := by omega
  clear hx0 hx1
  go_wp2_with fail
  go_loopw [3, 4] (fun o i wr => ∃ (c y : Nat) (s : ByteArray), c + y ≤ 8 ∧ i = .int .i64 y ∧ o = .string s ∧ s.size ≤ 5 * c ∧ Rdr wr g (m + 1 + c) ∧ w.grownBy wr (some g)) (fun _ i _ => (intOf i).toNat)
  case atStart => exact ⟨0, y0, _, by omega, rfl, rfl, by decide, hr1, hg1⟩
  case round =>
    obtain ⟨c, y, s, hcy, rfl, rfl, hsz, hr, hw⟩ := hrel
    clear hr1 hg1
    have hsz2 := hw.size
    by_cases hlt2 : 0 < y
    · obtain ⟨y, rfl⟩ : ∃ z, y = z + 1 := ⟨y - 1, by omega⟩
      have hd : decide (0 < ((y + 1 : Nat) : Int)) = true := decide_eq_true (by omega)
      have hrA := hr.alloc (.cells #[.string { data := #[97] }, .string { data := #[119, 111, 114, 100] }, .string { data := #[32] }, .string { data := #[32, 32] }, .string { data := #[46, 32] }, .string { data := #[33, 32] }, .string { data := #[120, 46] }, .string { data := #[116, 104, 105, 110, 103] }] 9)
      go_wp2_with fail
      refine (pick_any g _ _ _ hrA (by omega)).mono ?_
      rintro e w3 ⟨z, rfl, hz0, hz1, hr3, hg3⟩
      obtain ⟨z, rfl⟩ := Int.eq_ofNat_of_zero_le hz0
      have hz : z < 8 := by omega
      have htab := tab_cell hg3 (by omega)
      have hel : ∃ t : ByteArray, t.size ≤ 5 ∧ w3.cell? ⟨wr.heap.size, z, none⟩ = some (.string t) := by
        rw [htab z]
        match z, hz with
        | 0, _ => exact ⟨{ data := #[97] }, by decide, rfl⟩
        | 1, _ => exact ⟨{ data := #[119, 111, 114, 100] }, by decide, rfl⟩
        | 2, _ => exact ⟨{ data := #[32] }, by decide, rfl⟩
        | 3, _ => exact ⟨{ data := #[32, 32] }, by decide, rfl⟩
        | 4, _ => exact ⟨{ data := #[46, 32] }, by decide, rfl⟩
        | 5, _ => exact ⟨{ data := #[33, 32] }, by decide, rfl⟩
        | 6, _ => exact ⟨{ data := #[120, 46] }, by decide, rfl⟩
        | 7, _ => exact ⟨{ data := #[116, 104, 105, 110, 103] }, by decide, rfl⟩
      obtain ⟨t, ht, hct⟩ := hel
      clear htab hz0 hz1
      have hw3 := (only_alloc w (some g) hw (.cells #[.string { data := #[97] }, .string { data := #[119, 111, 114, 100] }, .string { data := #[32] }, .string { data := #[32, 32] }, .string { data := #[46, 32] }, .string { data := #[33, 32] }, .string { data := #[120, 46] }, .string { data := #[116, 104, 105, 110, 103] }] 9)).trans hg3
      have hst : (s ++ t).size ≤ 5 * (c + 1) := by rw [ByteArray.size_append]; omega
      have hcat : (s.size : Int) + (t.size : Int) ≤ 9223372036854775807 := by omega
      clear hg3 hr hrA
      go_wp2_with fail
      go_roundw
      case rel => exact ⟨c + 1, y, s ++ t, by omega, by go_num, rfl, hst, hr3.more (by omega), hw3⟩
      case measure => first | (simp [intOf]; done) | (simp [intOf]; omega)
    · have hd : decide (0 < (y : Int)) = false := decide_eq_false (by omega)
      go_wp2_with fail
      refine (odd_any g _ _ _ hr (by omega) (by omega) (by omega)).mono ?_
      rintro e w3 ⟨q, rfl, hr3, hg3⟩
      have hw3 := hw.trans hg3
      clear hr hw hg3 hd
      cases q
      · go_wp2_with fail
        go_ret
        exact ⟨s, rfl, by omega, hr3.more (by omega), hw3⟩
      · go_wp2_with fail
        refine (l20Text_any g _ _ _ hr3 (by omega) (by omega) (by omega)).mono ?_
        rintro e w4 ⟨t, rfl, ht, hr4, hg4⟩
        go_wp2_with fail
        go_ret
        exact ⟨t, rfl, ht, hr4.more (by omega), hw3.trans hg4⟩
/-- A number drawn. -/
def DrewI (g m : Nat) (w : World) (e : Ending) (w' : World) : Prop := ∃ v : Int, e = .returned (.int .i64 v) ∧ 0 ≤ v ∧ v ≤ 1000 ∧ Rdr w' g m ∧ w.grownBy w' (some g)
/-- A text in new memory. -/
def DrawnS (w : World) (e : Ending) (w' : World) : Prop := ∃ s : ByteArray, e = .returned (.string s) ∧ s.size ≤ 81 ∧ Below w.heap.size w w'
def DrawnSI (w : World) (e : Ending) (w' : World) : Prop := ∃ (s : ByteArray) (v : Int), e = .returned (.tuple #[.string s, .int .i64 v]) ∧ s.size ≤ 81 ∧ 0 ≤ v ∧ v ≤ 1000 ∧ Below w.heap.size w w'
theorem DrawManyWords_any (A : Option Addr) (cap B : Nat) (cs : List Int) (w : World) (h : RdU w B A cs) (hB : B ≤ w.heap.size) (hb : ∀ j, 0 ≤ PP.at_ cs j ∧ PP.at_ cs j ≤ 255) (hc : cs.length ≤ cap) (hl : cs.length ≤ 1048576) :
    Calls Tryd.prog 7 #[.slice A cs.length cap] w (DrawnS w) := by
  go_enter Tryd.func7, Tryd.ntmps7
  go_wp2_with fail
  refine (l20Open_any A cap B cs w h hB hb hc hl).mono ?_
  rintro e w1 ⟨rfl, hr1, hb1⟩
  have hlt := hr1.lt
  have hs1 := hb1.size
  go_wp2_with fail
  refine (l20Spaced_any _ 0 _ hr1 (by omega)).mono ?_
  rintro e w2 ⟨s, rfl, hsz, hr2, hg2⟩
  go_wp2_with fail
  go_ret
  exact ⟨s, rfl, hsz, below_of_only' hb1 hg2 (Nat.le_refl _)⟩
end Go.Proofs.YtlldbgekbndohaaDoor
