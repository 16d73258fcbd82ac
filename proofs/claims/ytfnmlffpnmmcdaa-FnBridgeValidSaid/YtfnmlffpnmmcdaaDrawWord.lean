/- A word drawn (taken from XDrawReports). -/
import Derived.Test.YtfnmlffpnmmcdaaReader
namespace Go.Proofs.Ytfnmlffpnmmcdaa
open Go.RowKit
/-- A word drawn: some short text. -/
def DrewW (g m : Nat) (w : World) (e : Ending) (w' : World) : Prop := ∃ s : ByteArray, e = .returned (.string s) ∧ s.size ≤ 9 ∧ Rdr w' g (m + 2) ∧ w.grownBy w' (some g)
theorem str_size (l : Array UInt8) (h : l.size ≤ 9) : (ByteArray.mk l).size ≤ 9 := h
set_option maxHeartbeats 400000 in
theorem l20Word_any (g m : Nat) (n : Int) (w : World) (h : Rdr w g m) (hm : m ≤ 1000100) (hn : 0 ≤ n) (hn2 : n ≤ 1000000) :
    Calls Try.prog 47 #[.pointer (some ⟨g, 0, none⟩), .int .i64 n] w (DrewW g m w) := by
  go_enter Try.func47, Try.ntmps47
  go_wp2_with fail
  refine (odd_any g m _ _ h (by omega) hn hn2).mono ?_
  rintro e w1 ⟨q, rfl, hr1, hg1⟩
  cases q
  ·
    have hrA := hr1.alloc (.cells #[.string { data := #[97, 110, 110] }, .string { data := #[98, 111, 98] }, .string { data := #[114, 101, 100] }, .string { data := #[115, 101, 97] }, .string { data := #[107, 49] }, .string { data := #[107, 50] }] 9)
    go_wp2_with fail
    refine (pick_any g _ _ _ hrA (by omega)).mono ?_
    rintro e w3 ⟨z, rfl, hz0, hz1, hr3, hg3⟩
    obtain ⟨z, rfl⟩ := Int.eq_ofNat_of_zero_le hz0
    have hz : z < 6 := by omega
    have htab := tab_cell hg3 (by have := hr1.lt; omega)
    have hel : ∃ s : ByteArray, s.size ≤ 9 ∧ w3.cell? ⟨w1.heap.size, z, none⟩ = some (.string s) := by
      rw [htab z]
      match z, hz with
      | 0, _ => exact ⟨_, str_size _ (by decide), rfl⟩
      | 1, _ => exact ⟨_, str_size _ (by decide), rfl⟩
      | 2, _ => exact ⟨_, str_size _ (by decide), rfl⟩
      | 3, _ => exact ⟨_, str_size _ (by decide), rfl⟩
      | 4, _ => exact ⟨_, str_size _ (by decide), rfl⟩
      | 5, _ => exact ⟨_, str_size _ (by decide), rfl⟩
    obtain ⟨s, hs, hc⟩ := hel
    clear htab hz0 hz1
    have hgw := (only_alloc w (some g) hg1 (.cells #[.string { data := #[97, 110, 110] }, .string { data := #[98, 111, 98] }, .string { data := #[114, 101, 100] }, .string { data := #[115, 101, 97] }, .string { data := #[107, 49] }, .string { data := #[107, 50] }] 9)).trans hg3
    clear hg3
    go_wp2_with fail
    go_ret
    exact ⟨s, rfl, hs, hr3.more (by omega), hgw⟩
  ·
    have hrA := hr1.alloc (.cells #[.string { data := #[] }, .string { data := #[49, 97] }, .string { data := #[65] }, .string { data := #[97, 32, 98] }, .string { data := #[97, 98, 99, 100, 101, 102, 103, 104, 105] }] 9)
    go_wp2_with fail
    refine (pick_any g _ _ _ hrA (by omega)).mono ?_
    rintro e w3 ⟨z, rfl, hz0, hz1, hr3, hg3⟩
    obtain ⟨z, rfl⟩ := Int.eq_ofNat_of_zero_le hz0
    have hz : z < 5 := by omega
    have htab := tab_cell hg3 (by have := hr1.lt; omega)
    have hel : ∃ s : ByteArray, s.size ≤ 9 ∧ w3.cell? ⟨w1.heap.size, z, none⟩ = some (.string s) := by
      rw [htab z]
      match z, hz with
      | 0, _ => exact ⟨_, str_size _ (by decide), rfl⟩
      | 1, _ => exact ⟨_, str_size _ (by decide), rfl⟩
      | 2, _ => exact ⟨_, str_size _ (by decide), rfl⟩
      | 3, _ => exact ⟨_, str_size _ (by decide), rfl⟩
      | 4, _ => exact ⟨_, str_size _ (by decide), rfl⟩
    obtain ⟨s, hs, hc⟩ := hel
    clear htab hz0 hz1
    have hgw := (only_alloc w (some g) hg1 (.cells #[.string { data := #[] }, .string { data := #[49, 97] }, .string { data := #[65] }, .string { data := #[97, 32, 98] }, .string { data := #[97, 98, 99, 100, 101, 102, 103, 104, 105] }] 9)).trans hg3
    clear hg3
    go_wp2_with fail
    go_ret
    exact ⟨s, rfl, hs, hr3.more (by omega), hgw⟩
end Go.Proofs.Ytfnmlffpnmmcdaa
