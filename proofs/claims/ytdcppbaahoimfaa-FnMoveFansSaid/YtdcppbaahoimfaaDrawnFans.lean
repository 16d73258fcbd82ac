import Derived.Test.YtdcppbaahoimfaaDrawnMoves
import Derived.Test.YtdcppbaahoimfaaFollowF
import Derived.Test.YtdcppbaahoimfaaFansPlain
namespace Go.Proofs.Ytdcppbaahoimfaa
open Go.RowKit
theorem folOf_szm {fs : List ElHandle} {h : ElHandle} (hf : ∀ x ∈ fs, x.1.size ≤ maxLen ∧ x.2.size ≤ maxLen) (hh : h.1.size ≤ maxLen ∧ h.2.size ≤ maxLen) : ∀ x ∈ folOf fs h, x.1.size ≤ maxLen ∧ x.2.size ≤ maxLen := fun x hx => by
  rcases folOf_mem hx with k | rfl
  · exact hf x k
  · exact hh
def DrawnMF (w : World) (e : Ending) (w' : World) : Prop := ∃ (A : Option Addr) (cap : Nat) (xs : List ElMove) (C : Option Addr) (capC : Nat) (fs : List ElHandle), e = .returned (.tuple #[.slice A xs.length cap, .slice C fs.length capC]) ∧ xs.length ≤ 9 ∧ (∀ k, k < xs.length → (gt xs k).1.1.size ≤ maxLen ∧ (gt xs k).1.2.size ≤ maxLen ∧ (gt xs k).2.1.size ≤ maxLen ∧ (gt xs k).2.2.size ≤ maxLen) ∧ fs.length ≤ 6 ∧ (∀ k, k < fs.length → (gt fs k).1.size ≤ maxLen ∧ (gt fs k).2.size ≤ maxLen) ∧ OwnE 4 encMove 30 w' w.heap.size A cap xs ∧ OwnE 2 encHandle 28 w' w.heap.size C capC fs ∧ Below w.heap.size w w'
set_option maxHeartbeats 1600000 in
theorem DrawMoveFans_any (A : Option Addr) (cap B : Nat) (cs : List Int) (w : World) (h : RdU w B A cs) (hB : B ≤ w.heap.size) (hb : ∀ j, 0 ≤ PP.at_ cs j ∧ PP.at_ cs j ≤ 255) (hc : cs.length ≤ cap) (hl : cs.length ≤ 1048576) :
    Calls Try.prog 33 #[.slice A cs.length cap] w (DrawnMF w) := by
  go_enter Try.func33, Try.ntmps33
  go_wp2_with fail
  refine (l20Open_any A cap B cs w h hB hb hc hl).mono ?_
  rintro e w1 ⟨rfl, hr1, hb1⟩
  have hlt := hr1.lt
  have hs1 := hb1.size
  go_wp2_with fail
  refine (l20Moves_any _ 0 _ _ hr1 (by omega) (by omega) (by omega)).mono ?_
  rintro e w2 ⟨T, cap', xs, rfl, hx, hsz, hown, hr2, hg2⟩
  have HSZ := Lib.hid hsz
  clear hsz
  have hs2 := hg2.size
  have hb2 : Below w.heap.size w w2 := below_of_only' hb1 hg2 (Nat.le_refl _)
  have hhi : Hid (∀ b, blk T = some b → b < w2.heap.size) := Lib.hid (fun b hb => (Own.lt hown hb).2)
  have ho2 : OwnE 2 encHandle 28 (w2.alloc (.cells #[] 28)) w2.heap.size (some ⟨w2.heap.size, 0, none⟩) 0 ([] : List ElHandle) := Own.lit w2 28 2 0 #[] (cE 2 encHandle ([] : List ElHandle)) (Nat.zero_le _) rfl
  have hx2 := Own.below hown ((Below.refl _ w2).alloc (Nat.le_refl _) (.cells #[] 28))
  have hr3 := hr2.alloc (.cells #[] 28)
  have hb3 : Below w.heap.size w (w2.alloc (.cells #[] 28)) := hb2.alloc hb2.size _
  have hz3 : w2.heap.size < (w2.alloc (.cells #[] 28)).heap.size := by simp
  clear hown hr2 hb2 hg2 hr1 hb1
  go_wp2_with fail
  refine (pick_any _ _ _ _ hr3 (by omega)).mono ?_
  rintro e w4 ⟨y, rfl, hy0, hy1, hr4, hg4⟩
  obtain ⟨y0, rfl⟩ := Int.eq_ofNat_of_zero_le hy0
  have hyb : y0 ≤ 5 := by omega
  have ho4 := keptG (xs := []) ho2 hg4 (by omega)
  have hx4 := keptG hx2 hg4 hlt
  have hs4 := hg4.size
  have hb4 := hb3.trans ((Below.refl w.heap.size _).grown hg4 (by omega) (fun i hi => by injection hi with hi; omega))
  clear hy0 hy1 ho2 hx2 hr3 hb3 hg4
  go_wp2_with fail
  go_loopw [6, 7, 8, 9] (fun v i _ _ wr => ∃ (c y : Nat) (T2 : Option Addr) (cap2 : Nat) (cur : List ElHandle), c + y ≤ 5 ∧ i = .int .i64 y ∧ v = .slice T2 cur.length cap2 ∧ cur.length ≤ c ∧ Hid (∀ x ∈ cur, x.1.size ≤ maxLen ∧ x.2.size ≤ maxLen) ∧ OwnE 2 encHandle 28 wr w2.heap.size T2 cap2 cur ∧ OwnE 4 encMove 30 wr w1.heap.size T cap' xs ∧ Rdr wr w.heap.size (101 + 3 * c) ∧ Below w.heap.size w wr ∧ w2.heap.size < wr.heap.size) (fun _ i _ _ _ => (intOf i).toNat)
  case atStart => exact ⟨0, y0, _, 0, [], by omega, rfl, rfl, by simp, Lib.hid (fun x hx => by cases hx), ho4, hx4, hr4, hb4, by omega⟩
  case round =>
    obtain ⟨c, y, T2, cap2, cur, hcy, rfl, rfl, hcl, HC, hcu, hxs, hr, hbl, hsr⟩ := hrel
    clear ho4 hx4 hr4 hb4
    by_cases hlt2 : 0 < y
    · obtain ⟨y, rfl⟩ : ∃ z, y = z + 1 := ⟨y - 1, by omega⟩
      have hd : decide (0 < ((y + 1 : Nat) : Int)) = true := decide_eq_true (by omega)
      go_wp2_with fail
      refine (l20Place_any _ _ _ _ hr (by omega) (by omega) (by omega)).mono ?_
      rintro e w5 ⟨a, b, rfl, ha, hb, hr5, hg5⟩
      have hs5 := hg5.size
      have hcu5 := keptG hcu hg5 (by omega)
      have hxs5 := keptG hxs hg5 hlt
      have hbl5 := hbl.trans ((Below.refl w.heap.size _).grown hg5 (by omega) (fun i hi => by injection hi with hi; omega))
      have HS5 := Lib.hid (folOf_szm HC.out (h := (a, b)) ⟨sz40 ha, sz40 hb⟩)
      have hlf := folOf_len1 cur (a, b)
      clear hcu hxs hr hbl hg5
      go_wp2_with fail
      refine (specFollow_any T2 cap2 _ cur (a, b) w5 (OwnE.rd hcu5) (Nat.le_refl _) (by omega) (Own.shp hcu5) (fun k hk => HC.out _ (gt_mem hk)) ⟨sz40 ha, sz40 hb⟩).mono ?_
      rintro e w6 ⟨T6, c6, rfl, ho6, hb6⟩
      have hs6 := hb6.size
      go_wp2_with fail
      go_roundw
      case rel => exact ⟨c + 1, y, T6, c6, _, by omega, by go_num, rfl, by omega, HS5, Own.more ho6 (by omega), Own.below hxs5 hb6, (hr5.below hb6 (by omega)).more (by omega), hbl5.trans (hb6.mono (by omega)), by omega⟩
      case measure => first | (simp [intOf]; done) | (simp [intOf]; omega)
    · have hd : decide (0 < (y : Int)) = false := decide_eq_false (by omega)
      go_wp2_with fail
      refine (odd_any _ _ _ _ hr (by omega) (by omega) (by omega)).mono ?_
      rintro e w5 ⟨q, rfl, hr5, hg5⟩
      have hs5 := hg5.size
      have hcu5 := keptG hcu hg5 (by omega)
      have hxs5 := keptG hxs hg5 hlt
      have hbl5 := hbl.trans ((Below.refl w.heap.size _).grown hg5 (by omega) (fun i hi => by injection hi with hi; omega))
      clear hcu hxs hr hbl hg5 hd
      cases q
      · go_wp2_with fail
        go_ret2
        exact ⟨T, cap', xs, T2, cap2, cur, rfl, hx, HSZ.out, by omega, fun k hk => HC.out _ (gt_mem hk), Own.more hxs5 (by omega), Own.more hcu5 (by omega), hbl5⟩
      · skip
        have hcuA := Own.below hcu5 ((Below.refl _ w5).alloc (Nat.le_refl _) (.cells #[.string { data := #[] }, .string { data := #[] }] 28))
        have hxsA := Own.below hxs5 ((Below.refl _ w5).alloc (Nat.le_refl _) (.cells #[.string { data := #[] }, .string { data := #[] }] 28))
        go_wp2_with (at_builtin; refine wpList_app rfl (.tmp 31) (.tmp 33) _ rfl w2.heap.size 28 _ 2 32 Try.underlying56 info_Handle rfl (by omega) T2 (some ⟨w5.heap.size, 0, none⟩) cur.length cap2 1 1 (w5.heap.size + 1) (cE 2 encHandle cur) (encHandle ({ data := #[] }, { data := #[] })) rfl rfl hcuA (rd_elem _ _ _ _ (fun j hj => by rcases (by omega : j = 0 ∨ j = 1) with rfl | rfl <;> rfl)) (fun _ _ => encHandle_one _ _) (by simp only [maxLen]; omega) (by omega) (by first | omega | (simp; done) | (simp; omega)) ?_; intro T7 cap7 w7 hown7 hg7)
        go_ret2
        have hb7 : Below w2.heap.size (w5.alloc (.cells #[.string { data := #[] }, .string { data := #[] }] 28)) w7 := grown_below hg7 (fun b hb => (Own.lt hcuA hb).1) (by first | omega | (simp; done) | (simp; omega))
        exact ⟨T, cap', xs, T7, cap7, cur ++ [({ data := #[] }, { data := #[] })], by rw [List.length_append]; rfl, hx, HSZ.out, by rw [List.length_append, List.length_singleton]; omega, fun k hk => (fun x (hx : x ∈ cur ++ [({ data := #[] }, { data := #[] })]) => (List.mem_append.1 hx).elim (HC.out x) (fun e => by rw [List.mem_singleton] at e; subst e; exact ⟨by simp only [maxLen]; decide, by simp only [maxLen]; decide⟩) : ∀ x ∈ cur ++ [({ data := #[] }, { data := #[] })], x.1.size ≤ maxLen ∧ x.2.size ≤ maxLen) _ (gt_mem hk), Own.more (Own.belowB hxsA hb7 hhi.out) (by omega), Own.more (OwnE.push (by omega) rfl hown7) (by omega), (hbl5.alloc hbl5.size _).trans (hb7.mono (by omega))⟩
end Go.Proofs.Ytdcppbaahoimfaa
