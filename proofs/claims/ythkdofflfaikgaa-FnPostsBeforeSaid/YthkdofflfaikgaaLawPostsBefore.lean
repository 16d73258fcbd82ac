import Derived.Test.YthkdofflfaikgaaDrawTime3
import Derived.Test.YthkdofflfaikgaaTimePlain3
import Derived.Test.YthkdofflfaikgaaTimeD
import Derived.Test.YthkdofflfaikgaaTail
import Derived.Test.YthkdofflfaikgaaWords
import Derived.Test.YthkdofflfaikgaaChain
namespace Go.Proofs.Ythkdofflfaikgaa
open Go.RowKit PP
theorem min_two (ats : Array TypeId) (ty : TypeId) (k : IntKind) (x y : Int) : Go.Builtin.min_ ats ty #[.int k x, .int k y] = pure (.int k (if y < x then y else x)) := by simp [Go.Builtin.min_, Go.Builtin.min2]
set_option maxRecDepth 100000 in
set_option maxHeartbeats 3200000 in
theorem FnPostsBefore_walk (A : Option Addr) (cap : Nat) (cs : List Int) (w : World) (h : Rd w w.heap.size 1 A cs.length (fun j => .int .u8 (at_ cs j))) (hc : cs.length ≤ cap) (_ : cap ≤ maxLen) (hwf : ∀ n ∈ cs, (Lit.int .u8 n).wf = true) :
    Calls Try.prog 8 #[.slice A cs.length cap] w fun e w' => e = .returned (.bool true) ∧ Below w.heap.size w w' := by
  by_cases hs : cs.length ≤ 1048576
  · have hd : decide (1048576 < (cs.length : Int)) = false := decide_eq_false (by omega)
    have hbyte := Lib.hid (byte_bounds hwf)
    clear hwf
    go_enter Try.func8, Try.ntmps8
    go_wp2_with fail
    refine (DrawPostsBefore_any A cap _ cs w h (Nat.le_refl _) hbyte.out hc hs).mono ?_
    rintro e w1 ⟨T, c1, xs, when, many, rfl, hx, o1, hb1⟩
    have hs1 := hb1.size
    have rx := OwnE.rd o1
    have hL := pb_len (xs := xs) (when := when) (many := many)
    have hself := sameB_self (postsBefore xs when many)
    go_wp2_with fail
    refine (implPostsBefore_any T c1 _ xs when many w1 rx (Nat.le_refl _) (by omega)).mono ?_
    rintro e w2 ⟨R, c2, rfl, o2, b2⟩
    have s2 := b2.size
    go_wp2_with fail
    refine (specPostsBefore_any T c1 _ xs when many w2 (rx.below b2) s2 (by omega)).mono ?_
    rintro e w3 ⟨R3, c3, rfl, o3, b3⟩
    have k3 := (tr b2 b3)
    have s3 := k3.size
    have o2_3 := Own.below o2 b3
    go_wp2_with fail
    refine (samePosts_any R R3 c2 c3 w3.heap.size (postsBefore xs when many) (postsBefore xs when many) w3 (OwnE.rd o2_3) (OwnE.rd o3) (Nat.le_refl _) (by omega) (by omega)).mono ?_
    rintro e w4 ⟨rfl, b4⟩
    have k4 := (tr k3 b4)
    have m4 := (tr b3 b4)
    have s4 := k4.size
    have o2_4 := Own.below o2 m4
    clear o2_3 o3 b3 b4 k3
    generalize hX : postsBefore xs when many = X at *
    go_wp2_with fail
    go_loopw [7] (fun i wr => ∃ k : Nat, k ≤ X.length ∧ i = .int .i64 k ∧ Below w4.heap.size w4 wr) (fun i _ => X.length - (intOf i).toNat)
    case atStart => exact ⟨0, Nat.zero_le _, rfl, Below.refl _ _⟩
    case round =>
      obtain ⟨k, hk, rfl, hbl⟩ := hrel
      have o2_r := Own.below o2 (tr m4 hbl)
      have kr := (tr k4 hbl)
      by_cases hlt : k < X.length
      · obtain ⟨b, off, rfl, hb, hcell⟩ := (OwnE.rd o2_r).at_ (by omega)
        have c0 : wr.cell? ⟨b, off + k * 2, none⟩ = some (Value.int .i64 ((gt X k).1)) := hcell k 0 (by omega) (by omega)
        clear hcell
        have hw : (gt X k).1 ≤ when := by rw [← hX]; exact pb_when (gt_mem (by rw [hX]; exact hlt))
        have hwd : decide (when < (gt X k).1) = false := decide_eq_false (by omega)
        go_wp2_with fail
        go_roundw
        case rel => exact ⟨k + 1, by omega, by go_num, hbl⟩
        case measure => simp [intOf]; omega
      · obtain rfl : k = X.length := by omega
        by_cases h0 : many < 0
        · have d0 : decide (many < 0) = true := decide_eq_true h0
          have hE : X.length = 0 := by rw [← hX, postsBefore_no (fun q => by omega)]; rfl
          have hz : ((X.length : Int) == 0) = true := beq_iff_eq.2 (by omega)
          clear hX
          go_wp2_with (go_at_call 17; refine (alive_any _).mono ?_; rintro e w' ⟨rfl, rfl⟩)
          go_ret
          exact ⟨rfl, (tr hb1 kr)⟩
        by_cases h1 : 40 < many
        · have d0 : decide (many < 0) = false := decide_eq_false h0
          have d1 : decide (40 < many) = true := decide_eq_true h1
          have hE : X.length = 0 := by rw [← hX, postsBefore_no (fun q => by omega)]; rfl
          have hz : ((X.length : Int) == 0) = true := beq_iff_eq.2 (by omega)
          clear hX
          go_wp2_with (go_at_call 17; refine (alive_any _).mono ?_; rintro e w' ⟨rfl, rfl⟩)
          go_ret
          exact ⟨rfl, (tr hb1 kr)⟩
        have d0 : decide (many < 0) = false := decide_eq_false h0
        have d1 : decide (40 < many) = false := decide_eq_false h1
        go_wp2_with fail
        refine (implPostsBefore_any T c1 _ xs when 40 wr (rx.below kr) kr.size (by omega)).mono ?_
        rintro e w5 ⟨R5, c5, rfl, o5, b5⟩
        have k5 := (tr kr b5)
        have hY := pb_len (xs := xs) (when := when) (many := 40)
        have hXY : X = (postsBefore xs when 40).take many.toNat := by rw [← hX]; exact pb_all (by omega) (by omega)
        clear hX
        generalize postsBefore xs when 40 = Y at *
        have hln : X.length = min many.toNat Y.length := by rw [hXY, List.length_take]
        have hlY : X.length ≤ Y.length := by omega
        have hYX : Y.take X.length = X := by rw [hln, hXY]; exact List.take_eq_take_min.symm
        have hcp : Y.length ≤ c5 := by rcases Own.shp o5 with ⟨_, q1, _⟩ | ⟨_, _, _, q1, _⟩ <;> omega
        have hmn : ∀ ats ty, Go.Builtin.min_ ats ty #[.int .i64 many, .int .i64 (Y.length : Int)] = pure (.int .i64 (X.length : Int)) := fun _ _ => by rw [min_two]; congr 2; split <;> omega
        have r5 : RdE 2 encPost w5 w5.heap.size (tlA R5 c5 0 2) X := by have q := RdE.head (OwnE.rd o5) c5 X.length; rw [hYX] at q; exact q
        have hsl := fun W => run_upto (P := Try.prog) Try.underlying25 info_Post R5 Y.length c5 X.length (by omega) W
        have o2_5 := Own.below o2_r (b5)
        have hbe : ((X.length : Int) == (X.length : Int)) = true := beq_self_eq_true _
        clear hXY hln hYX
        go_wp2_with (go_at_call 28; refine (samePosts_any (tlA R5 c5 0 2) R c5 c2 w5.heap.size X X w5 r5 (RdE.more (OwnE.rd o2_5) (Nat.le_refl _)) (Nat.le_refl _) (by omega) (by omega)).mono ?_; rintro e w6 ⟨rfl, b6⟩)
        go_ret
        exact ⟨rfl, (tr hb1 (tr k5 b6))⟩
  · have hd : decide (1048576 < (cs.length : Int)) = true := decide_eq_true (by omega)
    go_enter Try.func8, Try.ntmps8
    go_wp2
    go_ret
    exact ⟨rfl, Below.refl _ _⟩
end Go.Proofs.Ythkdofflfaikgaa
