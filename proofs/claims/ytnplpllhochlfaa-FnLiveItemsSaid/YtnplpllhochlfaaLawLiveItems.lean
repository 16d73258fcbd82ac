import Derived.Test.YtnplpllhochlfaaDrawLive
import Derived.Test.YtnplpllhochlfaaLiveA
import Derived.Test.YtnplpllhochlfaaWords
namespace Go.Proofs.Ytnplpllhochlfaa
open Go.RowKit PP
set_option maxRecDepth 100000 in
set_option maxHeartbeats 1600000 in
theorem FnLiveItems_walk (A : Option Addr) (cap : Nat) (cs : List Int) (w : World) (h : Rd w w.heap.size 1 A cs.length (fun j => .int .u8 (at_ cs j))) (hc : cs.length ≤ cap) (_ : cap ≤ maxLen) (hwf : ∀ n ∈ cs, (Lit.int .u8 n).wf = true) :
    Calls Try.prog 3 #[.slice A cs.length cap] w fun e w' => e = .returned (.bool true) ∧ Below w.heap.size w w' := by
  by_cases hs : cs.length ≤ 1048576
  · have hd : decide (1048576 < (cs.length : Int)) = false := decide_eq_false (by omega)
    have hbyte := Lib.hid (byte_bounds hwf)
    clear hwf
    go_enter Try.func3, Try.ntmps3
    go_wp2_with fail
    refine (DrawLiveItems_any A cap _ cs w h (Nat.le_refl _) hbyte.out hc hs).mono ?_
    rintro e w1 ⟨F, cF, xs, T, cT, ts, now, rfl, hx, hsx, ht, hst, hn0, hn1, o1, u1, hb1⟩
    have hs1 := hb1.size
    have rx := OwnE.rd o1
    have rt := SubE.rd u1
    have hcF := (Own.sub o1).capLe
    have hcT := Sub.capLe u1
    have HX := Lib.hid (szI_max hsx)
    have HT := Lib.hid hst
    have HL := Lib.hid (fun n : Int => szI_max (fun x hx => hsx x (liveOf_mem (ts := ts) (now := n) hx)))
    clear hsx hst
    have hM := liveOf_len xs ts now
    have hM1 := liveOf_len xs ts (now + 1)
    have hlat := liveOf_later xs ts now
    have hself := sameB_self (liveOf xs ts now)
    go_wp2_with fail
    refine (implLiveItems_any F cF T cT _ xs ts now w1 rx rt (Nat.le_refl _) (by omega) (by omega) hcF hcT HX.out HT.out).mono ?_
    rintro e w2 ⟨R, c2, rfl, o2, b2⟩
    have s2 := b2.size
    go_wp2_with fail
    refine (specLiveItems_any F cF T cT _ xs ts now w2 (rx.below b2) (rt.below b2) s2 (by omega) (by omega) HX.out HT.out).mono ?_
    rintro e w3 ⟨R3, c3, rfl, o3, b3⟩
    have k3 := (tr b2 b3)
    have s3 := k3.size
    have o2_3 := Own.below o2 b3
    go_wp2_with fail
    refine (sameFeed_any R R3 c2 c3 w3.heap.size (liveOf xs ts now) (liveOf xs ts now) w3 (OwnE.rd o2_3) (OwnE.rd o3) (Nat.le_refl _) (by omega) (by omega)).mono ?_
    rintro e w4 ⟨rfl, b4⟩
    have k4 := (tr k3 b4)
    have m4 := (tr b3 b4)
    have s4 := k4.size
    have o2_4 := Own.below o2 m4
    clear o2_3 o3 b3 b4 k3
    go_wp2_with fail
    refine (implFeedValid_any F cF _ xs w4 (rx.below k4) s4 (by omega) hcF HX.out).mono ?_
    rintro e w5 ⟨rfl, b5⟩
    have k5 := (tr k4 b5)
    have m5 := (tr m4 b5)
    have s5 := k5.size
    have o2_5 := Own.below o2 m5
    by_cases hv : fdB xs = true
    · by_cases hv2 : tmB ts = true
      · have HE := Lib.hid (liveOf_yes (now := now) hv hv2)
        have HD := Lib.hid (live_dead xs ts now (Nat.le_refl _))
        have HFD := Lib.hid (liveOf_fd (ts := ts) (now := now) hv)
        have h7 : xs.length ≤ 7 := hx
        go_wp2_with fail
        refine (implTombsValid_any T cT _ ts w5 (rt.below k5) s5 (by omega) hcT HT.out).mono ?_
        rintro e w6 ⟨rfl, b6⟩
        have k6 := (tr k5 b6)
        have m6 := (tr m5 b6)
        have s6 := k6.size
        have o2_6 := Own.below o2 m6
        go_wp2_with fail
        clear hv hv2
        go_loopw [7, 8] (fun d i wr => ∃ (k : Nat), k ≤ xs.length ∧ i = .int .i64 k ∧ d = .int .i64 (deadTo xs ts now k) ∧ Below w2.heap.size w2 wr) (fun _ i _ => xs.length - (intOf i).toNat)
        case atStart => exact ⟨0, Nat.zero_le _, rfl, rfl, m6⟩
        case round =>
          obtain ⟨k, hk, rfl, rfl, hbl⟩ := hrel
          have kbl := (tr b2 hbl)
          have hsz := kbl.size
          have hdk : deadTo xs ts now k ≤ k := by have := live_dead xs ts now hk; omega
          by_cases hlt : k < xs.length
          · obtain ⟨b, off, rfl, hb, hcc⟩ := (rx.below kbl).at_ (by omega)
            have c0 : wr.cell? ⟨b, off + k * 4, none⟩ = some (Value.string (gt xs k).1) := hcc k 0 (by omega) (by omega)
            clear hcc
            go_wp2_with fail
            refine (implIsBuried_any T cT w1.heap.size ts (gt xs k).1 now wr (rt.below kbl) hsz (by omega) hcT HT.out).mono ?_
            rintro e wb ⟨rfl, hbb⟩
            have hbl2 := (tr hbl hbb)
            cases hq : buriedB ts (gt xs k).1 now
            · have HN := Lib.hid (deadTo_not hlt hq)
              clear hq
              go_wp2_with fail
              go_roundw
              case rel => exact ⟨k + 1, by omega, by go_num, by rw [HN.out], hbl2⟩
              case measure => first | (simp [intOf]; done) | (simp [intOf]; omega)
            · have HN := Lib.hid (deadTo_is hlt hq)
              clear hq
              go_wp2_with fail
              go_roundw
              case rel => exact ⟨k + 1, by omega, by go_num, by rw [HN.out]; go_num, hbl2⟩
              case measure => first | (simp [intOf]; done) | (simp [intOf]; omega)
          · obtain rfl : k = xs.length := by omega
            have o2_r := Own.below o2 hbl
            have hsum : (((liveOf xs ts now).length : Int) + (deadTo xs ts now xs.length : Int) == (xs.length : Int)) = true := by have h1 := HD.out; rw [HE.out]; exact beq_iff_eq.2 (by omega)
            have hcR := (Own.sub o2).capLe
            have hcall := implFeedValid_any R c2 w2.heap.size (liveOf xs ts now) wr ((OwnE.rd o2).below hbl) hbl.size (by omega) hcR (HL.out now)
            rw [HFD.out] at hcall
            have HC := Lib.hid hcall
            clear hcall HL
            have hge : decide ((liveOf xs ts now).length ≤ (liveOf xs ts (now + 1)).length) = true := decide_eq_true hlat
            have hge2 : decide (((liveOf xs ts now).length : Int) ≤ ((liveOf xs ts (now + 1)).length : Int)) = true := decide_eq_true (by omega)
            go_wp2_with fail
            refine HC.out.mono ?_
            rintro e w7 ⟨rfl, b7⟩
            have k7 := (tr kbl b7)
            have s7 := k7.size
            go_wp2_with fail
            refine (implLiveItems_any F cF T cT _ xs ts (now + 1) w7 (rx.below k7) (rt.below k7) s7 (by omega) (by omega) hcF hcT HX.out HT.out).mono ?_
            rintro e w8 ⟨R8, c8, rfl, o8, b8⟩
            go_wp2_with fail
            go_ret
            exact ⟨rfl, (tr hb1 (tr k7 b8))⟩
      · have hv2' : tmB ts = false := by simpa using hv2
        have HE := Lib.hid (liveOf_bad2 (fs := xs) (now := now) hv2')
        have hz : (((liveOf xs ts now).length : Int) == 0) = true := by rw [HE.out]; simp
        clear hv2
        go_wp2_with fail
        refine (implTombsValid_any T cT _ ts w5 (rt.below k5) s5 (by omega) hcT HT.out).mono ?_
        rintro e w6 ⟨rfl, b6⟩
        have k6 := (tr k5 b6)
        go_wp2_with (go_at_call 11; refine (alive_any _).mono ?_; rintro e w' ⟨rfl, rfl⟩)
        go_ret
        exact ⟨rfl, (tr hb1 k6)⟩
    · have hv' : fdB xs = false := by simpa using hv
      have HE := Lib.hid (liveOf_bad1 (ts := ts) (now := now) hv')
      have hz : (((liveOf xs ts now).length : Int) == 0) = true := by rw [HE.out]; simp
      clear hv
      go_wp2_with (go_at_call 11; refine (alive_any _).mono ?_; rintro e w' ⟨rfl, rfl⟩)
      go_ret
      exact ⟨rfl, (tr hb1 k5)⟩
  · have hd : decide (1048576 < (cs.length : Int)) = true := decide_eq_true (by omega)
    go_enter Try.func3, Try.ntmps3
    go_wp2
    go_ret
    exact ⟨rfl, Below.refl _ _⟩
end Go.Proofs.Ytnplpllhochlfaa
