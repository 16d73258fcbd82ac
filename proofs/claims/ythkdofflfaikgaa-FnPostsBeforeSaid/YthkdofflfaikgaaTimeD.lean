import Derived.Test.YthkdofflfaikgaaTimeC
namespace Go.Proofs.Ythkdofflfaikgaa
open Go.RowKit
set_option maxHeartbeats 400000 in
theorem implPostsBefore_any (A : Option Addr) (cap B : Nat) (ps : List ElPost) (when many : Int) (w : World) (h : RdE 2 encPost w B A ps) (hB : B ≤ w.heap.size) (hl : ps.length ≤ 140737488351232) :
    Calls Try.prog 19 #[.slice A ps.length cap, .int .i64 when, .int .i64 many] w fun e w' => ∃ T' cap', e = .returned (.slice T' (postsBefore ps when many).length cap') ∧ OwnE 2 encPost 33 w' w.heap.size T' cap' (postsBefore ps when many) ∧ Below w.heap.size w w' := by
  by_cases hv : tvB ps = true
  · by_cases hin : inB many 0 40 = true
    · obtain ⟨m0, m1⟩ := inB_40 hin
      have h40 := (Tv.of hv).1
      rw [postsBefore_yes hv m0 m1]
      go_enter Try.func19, Try.ntmps19
      go_wp2_with fail
      refine (implTimelineValid_any _ _ B ps w h hB hl).mono ?_
      rintro e w0 ⟨rfl, hb0⟩
      go_wp2_with (go_at_call 33; refine (within_any _ _ _ _).mono ?_; rintro e w' ⟨rfl, rfl⟩)
      go_loopw [7, 20] (fun v i wr => ∃ (k : Nat) (T' : Option Addr) (cap' : Nat) (cur : List ElPost), k ≤ ps.length ∧ i = .int .i64 k ∧ v = .slice T' cur.length cap' ∧ Hid (cur = pbTo ps when many k) ∧ cur.length ≤ k ∧ OwnE 2 encPost 33 wr w.heap.size T' cap' cur ∧ Below w.heap.size w wr) (fun _ i _ => ps.length - (intOf i).toNat)
      case atStart => exact ⟨0, none, 0, [], Nat.zero_le _, rfl, rfl, Lib.hid (pbTo_zero _ _ _).symm, Nat.le_refl _, Own.nil _ _ _ _ _, hb0⟩
      case round =>
        obtain ⟨k, T', cap', cur, hk, rfl, rfl, hcur, hck, hown, hbl⟩ := hrel
        by_cases hlt : k < ps.length
        · have hsz := hbl.size
          obtain ⟨b, off, rfl, hb, hc⟩ := (h.below (hbl.mono hB)).at_ (by omega)
          have hbs : b < wr.heap.size := by omega
          have c0 : wr.cell? ⟨b, off + k * 2, none⟩ = some (Value.int .i64 ((gt ps k).1)) := hc k 0 (by omega) (by omega)
          have c1 : wr.cell? ⟨b, off + k * 2 + 1, none⟩ = some (Value.int .i64 ((gt ps k).2)) := hc k 1 (by omega) (by omega)
          clear hc
          have hownA := Own.below hown ((Below.refl _ _).alloc (Nat.le_refl _) (.cells #[.int .i64 ((gt ps k).1), .int .i64 ((gt ps k).2)] 33))
          have hblA := hbl.alloc hsz (.cells #[.int .i64 ((gt ps k).1), .int .i64 ((gt ps k).2)] 33)
          by_cases hwhen : (gt ps k).1 ≤ when
          · have hw2 : decide ((gt ps k).1 ≤ when) = true := by simp [hwhen]
            by_cases hmany : (cur.length : Int) < many
            · have hm2 : decide ((cur.length : Int) < many) = true := by simp [hmany]
              have HN := Lib.hid (pbTo_one (many := many) hlt hwhen (by rw [← hcur.out]; exact hmany))
              go_wp2_with (at_builtin; refine wpList_app rfl (.tmp 34) (.tmp 36) _ rfl w.heap.size 33 _ 2 16 Try.underlying25 info_Post rfl (by omega) T' (some ⟨wr.heap.size + 1, 0, none⟩) cur.length cap' 1 1 (wr.heap.size + 2) (cE 2 encPost cur) (encPost (gt ps k)) rfl rfl (Own.below hownA ((Below.refl _ _).alloc (Nat.le_refl _) _)) (by have := rd_elem (wr.alloc (.cells #[.int .i64 ((gt ps k).1), .int .i64 ((gt ps k).2)] 33)) 33 #[.int .i64 ((gt ps k).1), .int .i64 ((gt ps k).2)] (sz := 2) (enc := encPost) (gt ps k) (fun j hj => by rcases (by omega : j = 0 ∨ j = 1) with rfl | rfl <;> rfl); simpa using this) (fun _ _ => encPost_one _ _) (by simp only [maxLen]; omega) (by omega) (by simp; omega) ?_; intro T1 cap1 w2 hown2 hg2)
              go_roundw
              case rel => exact ⟨k + 1, T1, cap1, cur ++ [gt ps k], by omega, by go_num, by rw [List.length_append]; rfl, Lib.hid (by rw [HN.out, ← hcur.out]), by rw [List.length_append]; simp; omega, OwnE.snoc (by omega) hown2, (hblA.alloc hblA.size _).trans (grown_below hg2 (fun b hb => (hown.lt hb).1) (by simp; omega))⟩
              case measure => simp [intOf]; omega
            · have hm2 : decide ((cur.length : Int) < many) = false := by simp; omega
              have HF := Lib.hid (pbTo_full (ps := ps) (when := when) (k := k) (many := many) (by rw [← hcur.out]; omega) (k + 1) (by omega))
              go_wp2_with fail
              go_roundw
              case rel => exact ⟨k + 1, T', cap', cur, by omega, by go_num, rfl, Lib.hid (by rw [HF.out, ← hcur.out]), by omega, hownA, hblA⟩
              case measure => simp [intOf]; omega
          · have hw2 : decide ((gt ps k).1 ≤ when) = false := by simp; omega
            have HN := Lib.hid (pbTo_late (many := many) hlt hwhen)
            go_wp2_with fail
            go_roundw
            case rel => exact ⟨k + 1, T', cap', cur, by omega, by go_num, rfl, Lib.hid (by rw [HN.out, ← hcur.out]), by omega, hownA, hblA⟩
            case measure => simp [intOf]; omega
        · obtain rfl : k = ps.length := by omega
          go_wp2_with fail
          go_ret
          rw [← hcur.out]
          exact ⟨_, _, rfl, hown, hbl⟩
    · have hin' : inB many 0 40 = false := by simpa using hin
      rw [postsBefore_no (fun hh => hin (inB_true hh.2.1 hh.2.2))]
      clear hin
      go_enter Try.func19, Try.ntmps19
      go_wp2_with (first
        | (go_at_call 14; refine (implTimelineValid_any _ _ B ps w h hB hl).mono ?_; rintro e w0 ⟨rfl, hb0⟩)
        | (go_at_call 33; refine (within_any _ _ _ _).mono ?_; rintro e w' ⟨rfl, rfl⟩))
      go_ret
      exact ⟨none, 0, rfl, Own.nil _ _ _ _ _, hb0⟩
  · have hv' : tvB ps = false := by simpa using hv
    rw [postsBefore_no (fun hh => hv hh.1)]
    clear hv
    go_enter Try.func19, Try.ntmps19
    go_wp2_with (go_at_call 14; refine (implTimelineValid_any _ _ B ps w h hB hl).mono ?_; rintro e w0 ⟨rfl, hb0⟩)
    go_ret
    exact ⟨none, 0, rfl, Own.nil _ _ _ _ _, hb0⟩
end Go.Proofs.Ythkdofflfaikgaa
