/- Contracts of the gauge's reference: Fixed, Order. -/
import Derived.Test.YthkncbfaehgenaaGauN
namespace Go.Proofs.Ythkncbfaehgenaa
open Go.RowKit NB
theorem ret_two {k k' : IntKind} {a b c d : Int} (h : a = b) (h2 : c = d) : Ending.returned (.tuple #[.int k a, .int k' c]) = .returned (.tuple #[.int k b, .int k' d]) := by rw [h, h2]
theorem partsN_lt (b K : Nat) (hK : 2172 ≤ K) : partsN b < 2 ^ (K + 55) := by
  have h1 := fr_lt b
  have h2 := ex_lt b
  have h6 : 2 ^ (K + 54) < 2 ^ (K + 55) := Nat.pow_lt_pow_right (by decide) (by omega)
  unfold partsN
  split
  · have h3 : (fr b + 4503599627370496) ≤ 2 ^ 54 := by omega
    have h4 : 2 ^ (125 + ex b) ≤ 2 ^ K := Nat.pow_le_pow_right (by decide) (by omega)
    have h5 := Nat.mul_le_mul h3 h4
    rw [← Nat.pow_add, Nat.add_comm 54 K] at h5
    exact Nat.lt_of_le_of_lt h5 h6
  · have h3 : fr b ≤ 2 ^ 54 := by omega
    have h4 : 2 ^ 126 ≤ 2 ^ K := Nat.pow_le_pow_right (by decide) (by omega)
    have h5 := Nat.mul_le_mul h3 h4
    rw [← Nat.pow_add, Nat.add_comm 54 K] at h5
    exact Nat.lt_of_le_of_lt h5 h6
theorem nb_parts (b : Nat) : nb (partsV b).natAbs ≤ 2300 := by
  rw [nb_le_iff]
  have : (partsV b).natAbs = partsN b := by unfold partsV; split <;> simp
  rw [this]
  obtain ⟨K, hK, hK2⟩ : ∃ K, 2172 ≤ K ∧ 2300 = K + 55 := ⟨2245, by decide, rfl⟩
  rw [hK2]
  exact partsN_lt b K hK
theorem near_le (x z : Int) : (nearV x z).natAbs ≤ x.natAbs + 1 := by
  have h := natAbs_div_le x (show 0 < pw z from Nat.two_pow_pos _)
  unfold nearV
  split <;> omega
theorem nb_near (b : Nat) (z : Int) : nb (nearV (partsV b) z).natAbs ≤ 2301 := by
  refine Nat.le_trans (nb_mono (near_le _ _)) ?_
  exact nb_add_le _ _ 2300 (nb_parts b) (by rw [nb_one]; decide)

set_option maxHeartbeats 2000000 in
theorem refFixed_c (b : Nat) (s : Int) (w : World) (h1 : b < 18446744073709551616) :
    Calls Try.prog 20 #[.int .u64 b, .int .i64 s] w fun e w' => e = .returned (.tuple #[.int .i64 (fixedI b s), .int .i64 (fixedE b s)]) ∧ Below w.heap.size w w' := by
  by_cases hs : -40 ≤ s ∧ s ≤ 40
  · have hd := decide_eq_true hs
    have SC := Lib.hid (scale_c s)
    rw [hd] at SC
    have KC := Lib.hid (fun w => refKind_c b w h1)
    by_cases k1 : kindV b = 1
    · obtain ⟨e1, e2⟩ := fixed_nan (z := s) hs.1 hs.2 k1
      rw [e1, e2]
      rw [k1] at KC
      clear e1 e2 k1 hs hd
      go_enter Try.func20, Try.ntmps20
      go_wp2_with fail
      refine (SC.out _).mono ?_; rintro e w1 ⟨rfl, rfl⟩
      go_wp2_with fail
      refine (KC.out _).mono ?_; rintro e w1 ⟨rfl, rfl⟩
      go_wp2
      go_ret2
      exact ⟨rfl, Below.refl _ _⟩
    · by_cases k2 : kindV b = 2
      · obtain ⟨e1, e2⟩ := fixed_inf (z := s) hs.1 hs.2 k2
        rw [e1, e2]
        rw [k2] at KC
        clear e1 e2 k1 k2 hs hd
        go_enter Try.func20, Try.ntmps20
        go_wp2_with fail
        refine (SC.out _).mono ?_; rintro e w1 ⟨rfl, rfl⟩
        go_wp2_with fail
        refine (KC.out _).mono ?_; rintro e w1 ⟨rfl, rfl⟩
        go_wp2_with fail
        refine (KC.out _).mono ?_; rintro e w1 ⟨rfl, rfl⟩
        go_wp2
        go_ret2
        exact ⟨rfl, Below.refl _ _⟩
      · have nv := near_val b hs.1 hs.2
        have bn := nb_near b (1200 - s)
        obtain ⟨e1, e2⟩ := fixed_val (z := s) hs.1 hs.2 k1 k2
        rw [e1, e2]
        have t1 : (kindV b == 1) = false := beq_eq_false_iff_ne.2 k1
        have t2 : (kindV b == 2) = false := beq_eq_false_iff_ne.2 k2
        generalize kindV b = kv at *
        have bp := nb_parts b
        have PC := Lib.hid (fun w => refParts_c b w h1)
        have hz0 : 0 ≤ 1200 - s := by omega
        have hz1 : 1200 - s ≤ 10000 := by omega
        have hp61 : ((pw 61 : Nat) : Int) = 2305843009213693952 := by decide
        have VN := Lib.hid nv
        have BP := Lib.hid bp
        have BN := Lib.hid bn
        have P61 := Lib.hid hp61
        clear e1 e2 k1 k2 nv bp bn hp61 hd
        go_enter Try.func20, Try.ntmps20
        go_wp2_with fail
        refine (SC.out _).mono ?_; rintro e w1 ⟨rfl, rfl⟩
        go_wp2_with fail
        refine (KC.out _).mono ?_; rintro e w1 ⟨rfl, rfl⟩
        go_wp2_with fail
        refine (KC.out _).mono ?_; rintro e w1 ⟨rfl, rfl⟩
        go_wp2_with fail
        refine (PC.out _).mono ?_; rintro e w1 ⟨b1, A1, p1, c1, rfl, hn1, hb1⟩
        have l1 : p1 ≤ 50000 := by rw [hn1.dig.len]; have := BP.out; omega
        go_wp2_with fail
        refine (nearest_c (1200 - s) hn1 l1 hz0 hz1).mono ?_; rintro e w2 ⟨b2, A2, p2, c2, rfl, hn2, hb2⟩
        have l2 : p2 ≤ 50000 := by rw [hn2.dig.len]; have := BN.out; omega
        have Kn : Blk (w2.alloc (bNum b2 A2 p2 c2)) w2.heap.size 59 #[.bool b2, .slice A2 p2 c2] := Blk.new _ _ _
        have hna := hn2.alloc (bNum b2 A2 p2 c2)
        have hbw : Below w.heap.size w (w2.alloc (bNum b2 A2 p2 c2)) := bstep (bstep hb1 hb2) ((Below.refl _ _).alloc (Nat.le_refl _) _)
        go_wp2_with fail
        refine (within_c hna (by omega)).mono ?_; rintro e w3 ⟨rfl, hb3⟩
        have K3 := Kn.under hb3
        have hn3 := hna.below hb3
        have hbw3 := bstep hbw hb3
        obtain ⟨c0, c1, f0, f1, hl⟩ := K3.two
        by_cases hv : 2305843009213693952 < valN b s
        · have ht : decide ((pw 61 : Int) < ((nearV (partsV b) (1200 - s)).natAbs : Int)) = true := by
            rw [P61.out, VN.out]
            exact decide_eq_true (by split <;> omega)
          obtain ⟨e1, e2⟩ := fix_out (s := decide (9223372036854775808 ≤ b)) hv
          have E1 := Lib.hid e1
          have E2 := Lib.hid e2
          rw [ht]
          clear hv ht e1 e2
          go_wp2
          go_ret2
          rw [E1.out, E2.out]
          exact ⟨rfl, hbw3⟩
        · have ht : decide ((pw 61 : Int) < ((nearV (partsV b) (1200 - s)).natAbs : Int)) = false := by
            rw [P61.out, VN.out]
            exact decide_eq_false (by split <;> omega)
          obtain ⟨e1, e2⟩ := fix_in (s := decide (9223372036854775808 ≤ b)) (N := valN b s) (by omega)
          have e3 : valV (nearV (partsV b) (1200 - s)) = if decide (9223372036854775808 ≤ b) = true then -(valN b s : Int) else (valN b s : Int) := by
            have hf : fitsB (nearV (partsV b) (1200 - s)) 64 = true := by
              rw [fits64, VN.out]
              split <;> omega
            unfold valV
            rw [if_pos hf, VN.out]
            simp only [decide_eq_true_eq]
          have E1 := Lib.hid e1
          have E2 := Lib.hid e2
          have E3 := Lib.hid e3
          rw [ht]
          clear hv ht e1 e2 e3
          go_wp2_with fail
          refine (Value_c hn3 (by omega)).mono ?_; rintro e w4 ⟨rfl, hb4⟩
          go_wp2
          go_ret2
          rw [E1.out, E2.out, E3.out]
          exact ⟨rfl, bstep hbw3 hb4⟩
  · have hd := decide_eq_false hs
    have HS := Lib.hid hs
    have e1 : fixedI b s = 0 := by unfold fixedI; rw [if_neg hs]
    have e2 : fixedE b s = 2 := by unfold fixedE; rw [if_neg hs]
    rw [e1, e2]
    clear hs e1 e2
    go_enter Try.func20, Try.ntmps20
    go_wp2_with (go_at_call 14; refine (scale_c s _).mono ?_; rintro e w' ⟨rfl, rfl⟩; rw [hd])
    go_ret2
    exact ⟨rfl, Below.refl _ _⟩

set_option maxHeartbeats 2000000 in
theorem refOrder_c (a b : Nat) (w : World) (h1 : a < 18446744073709551616) (h2 : b < 18446744073709551616) :
    Calls Try.prog 24 #[.int .u64 a, .int .u64 b] w fun e w' => e = .returned (.tuple #[.int .i64 (ordI a b), .bool (ordB a b)]) ∧ Below w.heap.size w w' := by
  have KA := Lib.hid (fun w => refKind_c a w h1)
  have KB := Lib.hid (fun w => refKind_c b w h2)
  by_cases k1 : kindV a = 1
  · have e1 : ordB a b = false := decide_eq_false (by omega)
    have e2 : ordI a b = 0 := by unfold ordI; rw [e1]; rfl
    rw [e1, e2]
    have t := beq_iff_eq.2 k1
    clear k1 e1 e2
    generalize kindV a = ka at *
    go_enter Try.func24, Try.ntmps24
    go_wp2_with fail
    refine (KA.out _).mono ?_; rintro e w1 ⟨rfl, rfl⟩
    go_wp2
    go_ret2
    exact ⟨rfl, Below.refl _ _⟩
  · by_cases k2 : kindV b = 1
    · have e1 : ordB a b = false := decide_eq_false (by omega)
      have e2 : ordI a b = 0 := by unfold ordI; rw [e1]; rfl
      rw [e1, e2]
      have t := beq_eq_false_iff_ne.2 k1
      have t2 := beq_iff_eq.2 k2
      clear k1 k2 e1 e2
      generalize kindV a = ka at *
      generalize kindV b = kb at *
      go_enter Try.func24, Try.ntmps24
      go_wp2_with fail
      refine (KA.out _).mono ?_; rintro e w1 ⟨rfl, rfl⟩
      go_wp2_with fail
      refine (KB.out _).mono ?_; rintro e w1 ⟨rfl, rfl⟩
      go_wp2
      go_ret2
      exact ⟨rfl, Below.refl _ _⟩
    · have e1 : ordB a b = true := decide_eq_true (by omega)
      have e2 : ordI a b = if partsV a < partsV b then -1 else if partsV b < partsV a then 1 else 0 := by unfold ordI; rw [e1, if_pos rfl, ord_law h1 h2 k1 k2]; rfl
      rw [e1, e2]
      have t := beq_eq_false_iff_ne.2 k1
      have t2 := beq_eq_false_iff_ne.2 k2
      have PA := Lib.hid (fun w => refParts_c a w h1)
      have PB := Lib.hid (fun w => refParts_c b w h2)
      have BA := Lib.hid (nb_parts a)
      have BB := Lib.hid (nb_parts b)
      clear k1 k2 e1 e2
      generalize kindV a = ka at *
      generalize kindV b = kb at *
      generalize partsV a = x at *
      generalize partsV b = y at *
      generalize ho : (if x < y then (-1 : Int) else if y < x then 1 else 0) = n
      have HO := Lib.hid ho
      clear ho
      go_enter Try.func24, Try.ntmps24
      go_wp2_with fail
      refine (KA.out _).mono ?_; rintro e w1 ⟨rfl, rfl⟩
      go_wp2_with fail
      refine (KB.out _).mono ?_; rintro e w1 ⟨rfl, rfl⟩
      go_wp2_with fail
      refine (PA.out _).mono ?_; rintro e w1 ⟨b1, A1, p1, c1, rfl, hn1, hb1⟩
      have l1 : p1 ≤ 50000 := by rw [hn1.dig.len]; have := BA.out; omega
      go_wp2_with fail
      refine (PB.out _).mono ?_; rintro e w2 ⟨b2, A2, p2, c2, rfl, hn2, hb2⟩
      have l2 : p2 ≤ 50000 := by rw [hn2.dig.len]; have := BB.out; omega
      have Kx : Blk ((w2.alloc (bNum b1 A1 p1 c1)).alloc (bNum b2 A2 p2 c2)) w2.heap.size 59 #[.bool b1, .slice A1 p1 c1] := (Blk.new _ _ _).alloc _
      have Ky : Blk ((w2.alloc (bNum b1 A1 p1 c1)).alloc (bNum b2 A2 p2 c2)) (w2.heap.size + 1) 59 #[.bool b2, .slice A2 p2 c2] := Blk.new_at _ _ _ (by simp)
      have nx := ((hn1.below hb2).alloc (bNum b1 A1 p1 c1)).alloc (bNum b2 A2 p2 c2)
      have ny := (hn2.alloc (bNum b1 A1 p1 c1)).alloc (bNum b2 A2 p2 c2)
      have hbw : Below w.heap.size w ((w2.alloc (bNum b1 A1 p1 c1)).alloc (bNum b2 A2 p2 c2)) := bstep (bstep hb1 hb2) (twoB _ _ _)
      clear hn1 hn2
      go_wp2_with fail
      generalize (w2.alloc (bNum b1 A1 p1 c1)).alloc (bNum b2 A2 p2 c2) = W at *
      refine (Less_c nx ny (by omega) (by omega)).mono ?_; rintro e w3 ⟨rfl, hb3⟩
      have Kx3 := Kx.under hb3
      have Ky3 := Ky.under hb3
      have nx3 := nx.below hb3
      have ny3 := ny.below hb3
      have hbw3 := bstep hbw hb3
      obtain ⟨x0, x1, x2, x3, x4⟩ := Kx3.two
      obtain ⟨y0, y1, y2, y3, y4⟩ := Ky3.two
      by_cases hlt : x < y
      · rw [decide_eq_true hlt]
        have HL := Lib.hid hlt
        clear hlt
        go_wp2
        go_ret2
        obtain rfl : n = -1 := by rw [← HO.out, if_pos HL.out]
        exact ⟨rfl, hbw3⟩
      · rw [decide_eq_false hlt]
        have HL := Lib.hid hlt
        clear hlt
        go_wp2_with fail
        refine (Less_c ny3 nx3 (by omega) (by omega)).mono ?_; rintro e w4 ⟨rfl, hb4⟩
        by_cases hlt : y < x
        · rw [decide_eq_true hlt]
          have HL2 := Lib.hid hlt
          clear hlt
          go_wp2
          go_ret2
          obtain rfl : n = 1 := by have h1 := HL.out; have h2 := HL2.out; rw [← HO.out, if_neg (by omega), if_pos (by omega)]
          exact ⟨rfl, bstep hbw3 hb4⟩
        · rw [decide_eq_false hlt]
          have HL2 := Lib.hid hlt
          clear hlt
          go_wp2
          go_ret2
          obtain rfl : n = 0 := by have h1 := HL.out; have h2 := HL2.out; rw [← HO.out, if_neg (by omega), if_neg (by omega)]
          exact ⟨rfl, bstep hbw3 hb4⟩
end Go.Proofs.Ythkncbfaehgenaa
