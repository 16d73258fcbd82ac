import Derived.Test.YtfnmlffpnmmcdaaReader
import Derived.Test.YtfnmlffpnmmcdaaMark
import Derived.Deep.RegionWith
namespace Go.Proofs.Ytfnmlffpnmmcdaa
open Go.RowKit
theorem below_of_only' {a b c : World} {g : Nat} (h : Below a.heap.size a b) (k : b.grownBy c (some g)) (hg : a.heap.size ≤ g) : Below a.heap.size a c :=
  h.trans ((Below.refl _ _).grown k h.size (fun i hi => by injection hi with hi; omega))
theorem only_drew {a b : World} {row : Option Nat} (h : a.grownBy b row) : a.grownBy b.drew row := ⟨h.os, h.tape, h.output, h.size, h.block⟩
theorem rdr_drew {w : World} {g m : Nat} (h : Rdr w g m) : Rdr w.drew g m := h
/-- The zeros that a text is made of. -/
def zs81 : Array Value := madeCells (Value.int .u8 0).cells (81 * 1)
def str81 : ByteArray := (List.replicate 81 (0 : Int)).foldl (fun r n => r.push (UInt8.ofNat n.toNat)) ByteArray.empty
theorem fold_size (l : List Int) (s : ByteArray) : (l.foldl (fun r n => r.push (UInt8.ofNat n.toNat)) s).size = s.size + l.length := by
  induction l generalizing s with
  | nil => rfl
  | cons n l ih => rw [List.foldl_cons, ih, ByteArray.size_push, List.length_cons]; omega
theorem str81_size : str81.size = 81 := by unfold str81; rw [fold_size]; rfl
theorem zs81_get {j : Nat} (h : j < 81) : zs81[j]? = some (.int .u8 0) := by
  unfold zs81 madeCells
  rw [Array.getElem?_map, Array.getElem?_range, if_pos (by simpa using h)]
  show some _ = _
  congr 1
  show (#[Value.int .u8 0] : Array Value)[j % 1]! = _
  rw [Nat.mod_one]; rfl
theorem info_u8b : (Try.prog.info? 5).map (fun i => (i.zero, i.size, i.bytes)) = some (some (.int .u8 0), 1, 1) := by kernel_rfl
theorem make81 (w : World) : (Instr.makeSlice 22 (.int .i64 81) (.int .i64 81)).run Try.prog w = .ok (.slice (some ⟨w.heap.size, 0, none⟩) 81 81) (w.alloc (.cells zs81 5)) :=
  mk_run (P := Try.prog) 22 5 _ _ _ Try.underlying22 info_u8b 81 (by omega) (by omega) w
/-- Block b is the zeros. -/
def Zer (W : World) (b : Nat) : Prop := ∀ j, j < 81 → W.cell? ⟨b, j, none⟩ = some (.int .u8 0)
theorem conv81 (W : World) (b : Nat) (h : Zer W b) : (convert 22 9 (.slice (some ⟨b, 0, none⟩) 81 81)).run Try.prog W = .ok (.string str81) W := by
  rw [run_convert_bytes_string _ 22 9 5 _ _ _ Try.underlying22 Try.underlying5 Try.underlying9]
  have hl := run_loadCells_list (P := Try.prog) (w := W) ⟨b, 0, none⟩ (List.replicate 81 (Value.int .u8 0)) (fun j v hj => by
    have hj1 : j < 81 := by
      rcases Nat.lt_or_ge j 81 with q | q
      · exact q
      · rw [List.getElem?_eq_none (by simpa using q)] at hj; cases hj
    rw [List.getElem?_replicate, if_pos hj1] at hj
    obtain rfl : Value.int .u8 0 = v := by injection hj
    have := h j hj1
    have e : (⟨b, 0, none⟩ : Addr).add j = ⟨b, 0 + j, none⟩ := by unfold Addr.add; split <;> simp_all
    rw [e, Nat.zero_add]; exact this)
  have hl2 : (loadCells ⟨b, 0, none⟩ 81).run Try.prog W = .ok ((List.replicate 81 (0 : Int)).map (Value.int .u8)).toArray W := by
    rw [List.map_replicate]; exact hl
  rw [run_bytesToString W ⟨b, 0, none⟩ 81 81 (List.replicate 81 0) hl2]
  rfl
theorem Zer.new (W : World) : Zer (W.alloc (.cells zs81 5)) W.heap.size := fun j hj => by rw [World.cell?_alloc_at _ _ _ _ rfl, zs81_get hj]
theorem Zer.on {W W' : World} {b g : Nat} (h : Zer W b) (hg : W.grownBy W' (some g)) (hb : b < W.heap.size) (hne : g < b) : Zer W' b := fun j hj => by
  rw [World.cell?_of_block (w := W) (hg.block b hb (fun e => by injection e; omega))]; exact h j hj
theorem Zer.newd (W : World) : Zer (W.alloc (.cells zs81 5)).drew W.heap.size := Zer.new W
theorem tab_cell_d {w w1 : World} {g : Nat} {cs : Array Value} {e : TypeId} (hg : (w.alloc (.cells cs e)).drew.grownBy w1 (some g)) (h : g < w.heap.size) (i : Nat) : w1.cell? ⟨w.heap.size, i, none⟩ = cs[i]? :=
  tab_cell (w := w) (cs := cs) (e := e) ⟨hg.os, hg.tape, hg.output, hg.size, hg.block⟩ h i
/-- A text drawn. -/
def DrewS (g m b : Nat) (w : World) (e : Ending) (w' : World) : Prop := ∃ s : ByteArray, e = .returned (.string s) ∧ s.size ≤ b ∧ Rdr w' g m ∧ w.grownBy w' (some g)
/-- The bad texts. -/
def tb : Nat → ByteArray
  | 0 => { data := #[10] }
  | 1 => str81
  | _ => { data := #[97, 127] }
theorem tb_at {z : Nat} (h : z < 3) : (#[.string { data := #[10] }, .string str81, .string { data := #[97, 127] }] : Array Value)[z]? = some (.string (tb z)) := by
  match z, h with
  | 0, _ => rfl
  | 1, _ => rfl
  | 2, _ => rfl
theorem tb_new (W : World) (z : Nat) (h : z < 3) : (W.alloc (.cells #[.string { data := #[10] }, .string str81, .string { data := #[97, 127] }] 9)).cell? ⟨W.heap.size, z, none⟩ = some (.string (tb z)) := by
  rw [World.cell?_alloc_at _ _ _ _ rfl, tb_at h]
theorem tb_size {z : Nat} (h : z < 3) : (tb z).size ≤ 81 := by
  match z, h with
  | 0, _ => decide
  | 1, _ => exact Nat.le_of_eq str81_size
  | 2, _ => decide
set_option maxHeartbeats 1600000 in
theorem l20Text_any (g m : Nat) (n : Int) (w : World) (h : Rdr w g m) (hm : m ≤ 1000000) (hn : 0 ≤ n) (hn2 : n ≤ 1000000) :
    Calls Try.prog 54 #[.pointer (some ⟨g, 0, none⟩), .int .i64 n] w (DrewS g (m + 2) 81 w) := by
  have hlt := h.lt
  have hm81 := make81
  go_enter Try.func54, Try.ntmps54
  go_wp2_with fail
  refine (odd_any g m _ _ h (by omega) hn hn2).mono ?_
  rintro e w1 ⟨q, rfl, hr1, hg1⟩
  have hs1 := hg1.size
  have htbn := tb_new
  have hcn := fun W => conv81 _ _ (Zer.new W)
  have hcd := fun (W : World) => conv81 (W.alloc (.cells zs81 5)).drew W.heap.size (Zer.new W)
  have htbd : ∀ (W : World) (z : Nat), z < 3 → (W.alloc (.cells #[.string { data := #[10] }, .string str81, .string { data := #[97, 127] }] 9)).drew.cell? ⟨W.heap.size, z, none⟩ = some (.string (tb z)) := tb_new
  cases q
  · have hrA := hr1.alloc (.cells #[.string { data := #[] }, .string { data := #[104, 101, 108, 108, 111, 32, 119, 111, 114, 108, 100] }, .string { data := #[97, 60, 98, 62, 99, 60, 47, 98, 62, 32, 38, 32, 100] }, .string { data := #[79, 110, 101, 32, 116, 104, 105, 110, 103, 46, 32, 84, 119, 111, 33] }, .string { data := #[34, 120, 34] }, .string { data := #[115, 101, 101, 32, 64, 97, 110, 110, 64, 114, 101, 100, 32, 97, 110, 100, 32, 35, 110, 101, 119, 115, 46] }, .string { data := #[48, 49, 50, 51, 52, 53, 54, 55, 56, 57, 48, 49, 50, 51, 52, 53, 54, 55, 56, 57, 48, 49, 50, 51, 52, 53, 54, 55, 56, 57, 48, 49, 50, 51, 52, 53, 54, 55, 56, 57, 48, 49, 50, 51, 52, 53, 54, 55, 56, 57, 48, 49, 50, 51, 52, 53, 54, 55, 56, 57, 48, 49, 50, 51, 52, 53, 54, 55, 56, 57, 48, 49, 50, 51, 52, 53, 54, 55, 56, 57] }] 9)
    go_wp2_with fail
    refine (pick_any g _ _ _ hrA (by omega)).mono ?_
    rintro e w3 ⟨z, rfl, hz0, hz1, hr3, hg3⟩
    obtain ⟨z, rfl⟩ := Int.eq_ofNat_of_zero_le hz0
    have hz : z < 7 := by omega
    have htab := tab_cell hg3 (by omega)
    have hel : ∃ t : ByteArray, t.size ≤ 81 ∧ w3.cell? ⟨w1.heap.size, z, none⟩ = some (.string t) := by
      rw [htab z]
      match z, hz with
      | 0, _ => exact ⟨{ data := #[] }, by decide, rfl⟩
      | 1, _ => exact ⟨{ data := #[104, 101, 108, 108, 111, 32, 119, 111, 114, 108, 100] }, by decide, rfl⟩
      | 2, _ => exact ⟨{ data := #[97, 60, 98, 62, 99, 60, 47, 98, 62, 32, 38, 32, 100] }, by decide, rfl⟩
      | 3, _ => exact ⟨{ data := #[79, 110, 101, 32, 116, 104, 105, 110, 103, 46, 32, 84, 119, 111, 33] }, by decide, rfl⟩
      | 4, _ => exact ⟨{ data := #[34, 120, 34] }, by decide, rfl⟩
      | 5, _ => exact ⟨{ data := #[115, 101, 101, 32, 64, 97, 110, 110, 64, 114, 101, 100, 32, 97, 110, 100, 32, 35, 110, 101, 119, 115, 46] }, by decide, rfl⟩
      | 6, _ => exact ⟨{ data := #[48, 49, 50, 51, 52, 53, 54, 55, 56, 57, 48, 49, 50, 51, 52, 53, 54, 55, 56, 57, 48, 49, 50, 51, 52, 53, 54, 55, 56, 57, 48, 49, 50, 51, 52, 53, 54, 55, 56, 57, 48, 49, 50, 51, 52, 53, 54, 55, 56, 57, 48, 49, 50, 51, 52, 53, 54, 55, 56, 57, 48, 49, 50, 51, 52, 53, 54, 55, 56, 57, 48, 49, 50, 51, 52, 53, 54, 55, 56, 57] }, by decide, rfl⟩
    obtain ⟨t, ht, hct⟩ := hel
    clear htab hz0 hz1
    have hw3 := (only_alloc w (some g) hg1 (.cells #[.string { data := #[] }, .string { data := #[104, 101, 108, 108, 111, 32, 119, 111, 114, 108, 100] }, .string { data := #[97, 60, 98, 62, 99, 60, 47, 98, 62, 32, 38, 32, 100] }, .string { data := #[79, 110, 101, 32, 116, 104, 105, 110, 103, 46, 32, 84, 119, 111, 33] }, .string { data := #[34, 120, 34] }, .string { data := #[115, 101, 101, 32, 64, 97, 110, 110, 64, 114, 101, 100, 32, 97, 110, 100, 32, 35, 110, 101, 119, 115, 46] }, .string { data := #[48, 49, 50, 51, 52, 53, 54, 55, 56, 57, 48, 49, 50, 51, 52, 53, 54, 55, 56, 57, 48, 49, 50, 51, 52, 53, 54, 55, 56, 57, 48, 49, 50, 51, 52, 53, 54, 55, 56, 57, 48, 49, 50, 51, 52, 53, 54, 55, 56, 57, 48, 49, 50, 51, 52, 53, 54, 55, 56, 57, 48, 49, 50, 51, 52, 53, 54, 55, 56, 57, 48, 49, 50, 51, 52, 53, 54, 55, 56, 57] }] 9)).trans hg3
    go_wp2_with fail
    go_ret
    exact ⟨t, rfl, ht, hr3.more (by omega), hw3⟩
  · go_wp2_with fail
    go_region_with ((go_at_call 35; refine (pick_any g (m + 1) _ _ (by repeat (first | exact hr1 | refine rdr_drew ?_ | refine Rdr.alloc ?_ _)) (by omega)).mono ?_; rintro e w3 ⟨z, rfl, hz0, hz1, hr3, hg3⟩; obtain ⟨z, rfl⟩ := Int.eq_ofNat_of_zero_le hz0; have hz : z < 3 := (by omega); have hk3 : Hid (w.grownBy w3 (some g)) := Lib.hid (World.grownBy.trans (by repeat (first | exact hg1 | refine only_drew ?_ | refine only_alloc w (some g) ?_ _)) hg3); first | (have ht3 : w3.cell? ⟨w1.heap.size + 1, z, none⟩ = some (.string (tb z)) := (by have h := (tab_cell_d (w := w1.alloc (.cells zs81 5)) hg3 (by simp; omega) z).trans (tb_at hz); rwa [World.size_alloc] at h)) | have hz3 := conv81 w3 w1.heap.size (Zer.on (Zer.newd w1) hg3 (by simp) (by omega)) | skip; clear hz0 hz1 hg3))
    all_goals
      go_wp2_with fail
      go_ret
      refine ⟨tb z, by first | rfl | (rcases (by omega : z = 0 ∨ z = 1 ∨ z = 2) with rfl | rfl | rfl <;> rfl), tb_size hz, Rdr.more (m := m + 1 + 1) (by repeat (first | assumption | refine Rdr.alloc ?_ _)) (by omega), by repeat (first | exact hk3.out | refine only_alloc w (some g) ?_ _)⟩
end Go.Proofs.Ytfnmlffpnmmcdaa
