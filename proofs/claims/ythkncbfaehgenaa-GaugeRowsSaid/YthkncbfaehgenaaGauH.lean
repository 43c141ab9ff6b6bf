/- Contracts of the gauge: value, Fixed. -/
import Derived.Test.YthkncbfaehgenaaGauG
namespace Go.Proofs.Ythkncbfaehgenaa
open Go.RowKit NB
/-- n * 2^E, rounded -/
def finN (E : Int) (n : Nat) : Nat := if E < 0 then rndV n (-E).toNat else n * 2 ^ E.toNat
def fixI (s : Bool) (N : Nat) : Int := if 2305843009213693952 < N then 0 else if s then -(N : Int) else N
def fixE (N : Nat) : Int := if 2305843009213693952 < N then 5 else 0
theorem rnd_le (n l : Nat) : rndV n l ≤ n + 1 := by
  have : n / 2 ^ l ≤ n := Nat.div_le_self _ _
  unfold rndV
  split <;> omega
theorem finN_neg {E : Int} {n : Nat} (h : E < 0) : finN E n = rndV n (-E).toNat := by unfold finN; rw [if_pos h]
theorem finN_nn {E : Int} {n : Nat} (h : ¬E < 0) : finN E n = n * 2 ^ E.toNat := by unfold finN; rw [if_neg h]
theorem fix_in {s : Bool} {N : Nat} (h : N ≤ 2305843009213693952) : fixI s N = (if s then -(N : Int) else N) ∧ fixE N = 0 := by
  have h2 : ¬2305843009213693952 < N := by omega
  unfold fixI fixE
  rw [if_neg h2, if_neg h2]
  exact ⟨rfl, rfl⟩
theorem fix_out {s : Bool} {N : Nat} (h : 2305843009213693952 < N) : fixI s N = 0 ∧ fixE N = 5 := by
  unfold fixI fixE
  rw [if_pos h, if_pos h]
  exact ⟨rfl, rfl⟩
theorem below_drew {B : Nat} {w w' : World} (h : Below B w w') (q : Nat) : Below B w (w'.drewN q) := by
  induction q with
  | zero => exact h
  | succ q ih => exact ih.drew
theorem mid_facts {n : Nat} {E : Int} (_h : ¬E < 0) (h61 : E ≤ 61) :
    (2305843009213693952 / 2 ^ E.toNat < (n : Int) ↔ 2305843009213693952 < n * 2 ^ E.toNat) ∧ (n : Int) * 2 ^ E.toNat = ((n * 2 ^ E.toNat : Nat) : Int) := by
  generalize hq : E.toNat = k
  have hk2 : k ≤ 61 := by omega
  have hp := Nat.two_pow_pos k
  have e1 : ((2 : Int) ^ k) = ((2 ^ k : Nat) : Int) := by push_cast; rfl
  have e2 : 2305843009213693952 = 2 ^ (61 - k) * 2 ^ k := by rw [← Nat.pow_add, show 61 - k + k = 61 by omega]
  have e3 : 2305843009213693952 / 2 ^ k = 2 ^ (61 - k) := by rw [e2]; exact Nat.mul_div_cancel _ hp
  refine ⟨?_, by rw [e1]; push_cast; rfl⟩
  rw [e1]
  have e4 : (2305843009213693952 : Int) / ((2 ^ k : Nat) : Int) = ((2305843009213693952 / 2 ^ k : Nat) : Int) := rfl
  rw [e4, e3, Int.ofNat_lt]
  constructor
  · intro h
    rw [e2]
    exact Nat.mul_lt_mul_of_pos_right h hp
  · intro h
    rw [e2] at h
    exact Nat.lt_of_mul_lt_mul_right h
section
variable (s : Bool) (n f : Nat) (x z : Int) (w : World) (hn : n < 9007199254740992) (hx : -1074 ≤ x) (hx2 : x ≤ 1000) (hz : -40 ≤ z) (hz2 : z ≤ 40)
include hn hx hx2 hz hz2
set_option maxHeartbeats 1000000 in
theorem value_lo (h : x + z < 0) :
    Calls Try.prog 35 #[.agg #[.bool s, .int .u64 n, .int .i64 x, .float .f64 f], .int .i64 z] w fun e w' => e = .returned (.tuple #[.int .i64 (fixI s (finN (x + z) n)), .int .i64 (fixE (finN (x + z) n))]) ∧ Below w.heap.size w w' := by
  have hl : -(x + z) = (((-(x + z)).toNat : Nat) : Int) := by omega
  have hN := finN_neg (n := n) h
  have hc := fun w' => rounded_any n (-(x + z)).toNat w' hn (by omega) (by omega)
  rw [← hN, ← hl] at hc
  have hle : finN (x + z) n ≤ 9007199254740992 := by rw [hN]; exact Nat.le_trans (rnd_le _ _) (by omega)
  obtain ⟨e1, e2⟩ := fix_in (s := s) (N := finN (x + z) n) (by omega)
  rw [e1, e2]
  generalize finN (x + z) n = N at *
  have C := Lib.hid hc
  clear hc hN hl e1 e2
  cases s
  all_goals
    go_enter Try.func35, Try.ntmps35
    go_wp2_with (go_at_call 57; refine (C.out _).mono ?_; rintro e w' ⟨rfl, q, rfl⟩)
    go_ret2
    exact ⟨rfl, below_drew ((Below.refl _ _).alloc (Nat.le_refl _) _) q⟩
omit hn in
set_option maxHeartbeats 1000000 in
theorem value_none (h : ¬x + z < 0) (h0 : n = 0) :
    Calls Try.prog 35 #[.agg #[.bool s, .int .u64 n, .int .i64 x, .float .f64 f], .int .i64 z] w fun e w' => e = .returned (.tuple #[.int .i64 (fixI s (finN (x + z) n)), .int .i64 (fixE (finN (x + z) n))]) ∧ Below w.heap.size w w' := by
  rw [finN_nn h, h0, Nat.zero_mul]
  subst h0
  cases s
  all_goals
    go_enter Try.func35, Try.ntmps35
    go_wp2
    go_ret2
    exact ⟨rfl, (Below.refl _ _).alloc (Nat.le_refl _) _⟩
omit hn in
set_option maxHeartbeats 1000000 in
theorem value_far (h : ¬x + z < 0) (h0 : 0 < n) (h61 : 61 < x + z) :
    Calls Try.prog 35 #[.agg #[.bool s, .int .u64 n, .int .i64 x, .float .f64 f], .int .i64 z] w fun e w' => e = .returned (.tuple #[.int .i64 (fixI s (finN (x + z) n)), .int .i64 (fixE (finN (x + z) n))]) ∧ Below w.heap.size w w' := by
  have hb : 2305843009213693952 < finN (x + z) n := by
    rw [finN_nn h]
    have : 2 ^ 62 ≤ 2 ^ (x + z).toNat := Nat.pow_le_pow_right (by decide) (by omega)
    have := Nat.mul_le_mul h0 this
    omega
  obtain ⟨e1, e2⟩ := fix_out (s := s) hb
  rw [e1, e2]
  clear hb e1 e2
  go_enter Try.func35, Try.ntmps35
  go_wp2
  go_ret2
  exact ⟨rfl, (Below.refl _ _).alloc (Nat.le_refl _) _⟩
omit hn hx hx2 hz hz2 in
set_option maxHeartbeats 1000000 in
theorem value_mid (h : ¬x + z < 0) (h0 : 0 < n) (h61 : x + z ≤ 61) :
    Calls Try.prog 35 #[.agg #[.bool s, .int .u64 n, .int .i64 x, .float .f64 f], .int .i64 z] w fun e w' => e = .returned (.tuple #[.int .i64 (fixI s (finN (x + z) n)), .int .i64 (fixE (finN (x + z) n))]) ∧ Below w.heap.size w w' := by
  obtain ⟨m1, m2⟩ := mid_facts (n := n) h h61
  rw [← finN_nn (n := n) h] at m1 m2
  by_cases hb : 2305843009213693952 < finN (x + z) n
  · obtain ⟨e1, e2⟩ := fix_out (s := s) hb
    have t := m1.2 hb
    rw [e1, e2]
    clear m1 m2 hb e1 e2
    go_enter Try.func35, Try.ntmps35
    go_wp2
    go_ret2
    exact ⟨rfl, (Below.refl _ _).alloc (Nat.le_refl _) _⟩
  · have t : (decide (61 < x + z) || decide (2305843009213693952 / 2 ^ (x + z).toNat < (n : Int))) = false := by
      rw [Bool.or_eq_false_iff, decide_eq_false_iff_not, decide_eq_false_iff_not]
      exact ⟨by omega, fun h => hb (m1.1 h)⟩
    have hle : finN (x + z) n ≤ 2305843009213693952 := by omega
    obtain ⟨e1, e2⟩ := fix_in (s := s) hle
    rw [e1, e2]
    clear m1 hb e1 e2
    generalize finN (x + z) n = N at *
    have hw : IntKind.u64.wrap ((n : Int) * 2 ^ (x + z).toNat) = (N : Int) := by
      rw [m2, IntKind.wrap_u64]; omega
    clear m2
    cases s
    all_goals
      go_enter Try.func35, Try.ntmps35
      go_wp2
      go_ret2
      exact ⟨rfl, (Below.refl _ _).alloc (Nat.le_refl _) _⟩
theorem value_c : Calls Try.prog 35 #[.agg #[.bool s, .int .u64 n, .int .i64 x, .float .f64 f], .int .i64 z] w fun e w' => e = .returned (.tuple #[.int .i64 (fixI s (finN (x + z) n)), .int .i64 (fixE (finN (x + z) n))]) ∧ Below w.heap.size w w' := by
  by_cases h : x + z < 0
  · exact value_lo s n f x z w hn hx hx2 hz hz2 h
  · by_cases h0 : n = 0
    · exact value_none s n f x z w hx hx2 hz hz2 h h0
    · by_cases h61 : x + z ≤ 61
      · exact value_mid s n f x z w h (by omega) h61
      · exact value_far s n f x z w hx hx2 hz hz2 h (by omega) (by omega)
end
/-- a reading's value by a scale, and the error -/
def fixedI (b : Nat) (z : Int) : Int := if -40 ≤ z ∧ z ≤ 40 then (if kindV b = 1 then 0 else if kindV b = 2 then 0 else fixI (decide (9223372036854775808 ≤ b)) (finN ((plc b : Int) - 1074 + z) (mant b))) else 0
def fixedE (b : Nat) (z : Int) : Int := if -40 ≤ z ∧ z ≤ 40 then (if kindV b = 1 then 130 else if kindV b = 2 then 5 else fixE (finN ((plc b : Int) - 1074 + z) (mant b))) else 2
theorem told_fix (s : Bool) (N : Nat) : (if fixE N = 0 then fixI s N else 0) = fixI s N := by
  unfold fixE fixI
  by_cases h : 2305843009213693952 < N
  · rw [if_pos h, if_pos h]; rfl
  · rw [if_neg h, if_neg h]; rfl
theorem mant_lt (b : Nat) : mant b < 9007199254740992 := by
  have := fr_lt b
  unfold mant
  split <;> omega
theorem below_two {w w1 w2 : World} (h1 : Below w.heap.size w w1) (h2 : Below w1.heap.size w1 w2) : Below w.heap.size w w2 := h1.trans (h2.mono h1.size)
theorem plc_le {b : Nat} (h : kindV b ≠ 1) (h2 : kindV b ≠ 2) : plc b ≤ 2045 := by
  have h3 : ex b ≠ 2047 := fun h3 => by
    unfold kindV at h h2
    rw [if_pos h3] at h h2
    split at h <;> split at h2 <;> omega
  have := ex_lt b
  unfold plc
  omega
set_option maxHeartbeats 1000000 in
theorem fixed_c (b : Nat) (z : Int) (w : World) (hb : b < 18446744073709551616) :
    Calls Try.prog 18 #[.float .f64 b, .int .i64 z] w fun e w' => e = .returned (.tuple #[.int .i64 (fixedI b z), .int .i64 (fixedE b z)]) ∧ Below w.heap.size w w' := by
  by_cases hz : -40 ≤ z ∧ z ≤ 40
  · have hs : decide (-40 ≤ z ∧ z ≤ 40) = true := decide_eq_true hz
    have hS := scaleIs_c z
    rw [hs] at hS
    have SC := Lib.hid hS
    clear hS hs
    have KI := Lib.hid (fun w => kind_c b w hb)
    by_cases h1 : kindV b = 1
    · have e1 : fixedI b z = 0 := by unfold fixedI; rw [if_pos hz, if_pos h1]
      have e2 : fixedE b z = 130 := by unfold fixedE; rw [if_pos hz, if_pos h1]
      have K := KI.out
      rw [e1, e2]
      rw [h1] at K
      have KI := Lib.hid K
      clear e1 e2 h1 K hz
      go_enter Try.func18, Try.ntmps18
      go_wp2_with (first | (go_at_call 26; refine (SC.out _).mono ?_; rintro e w' ⟨rfl, rfl⟩) | (go_at_call 21; refine (KI.out _).mono ?_; rintro e w1 ⟨rfl, hw1⟩))
      go_ret2
      exact ⟨rfl, hw1⟩
    · by_cases h2 : kindV b = 2
      · have e1 : fixedI b z = 0 := by unfold fixedI; rw [if_pos hz, if_neg h1, if_pos h2]
        have e2 : fixedE b z = 5 := by unfold fixedE; rw [if_pos hz, if_neg h1, if_pos h2]
        have K := KI.out
        rw [e1, e2]
        rw [h2] at K
        have KI := Lib.hid K
        clear e1 e2 h1 h2 K hz
        go_enter Try.func18, Try.ntmps18
        have tok1 := trivial
        go_wp2_with (first | (go_at_call 26; refine (SC.out _).mono ?_; rintro e w' ⟨rfl, rfl⟩) | (go_at_call 21; have tok2 := tok1; clear tok1; refine (KI.out _).mono ?_; rintro e w1 ⟨rfl, hw1⟩) | (go_at_call 21; refine (KI.out _).mono ?_; rintro e w2 ⟨rfl, hw2⟩))
        go_ret2
        exact ⟨rfl, below_two hw1 hw2⟩
      · have e1 : fixedI b z = fixI (decide (9223372036854775808 ≤ b)) (finN ((plc b : Int) - 1074 + z) (mant b)) := by unfold fixedI; rw [if_pos hz, if_neg h1, if_neg h2]
        have e2 : fixedE b z = fixE (finN ((plc b : Int) - 1074 + z) (mant b)) := by unfold fixedE; rw [if_pos hz, if_neg h1, if_neg h2]
        have hp := plc_le h1 h2
        have RD := Lib.hid (fun w => read_c b w hb)
        have hv := fun w => value_c (decide (9223372036854775808 ≤ b)) (mant b) b ((plc b : Int) - 1074) z w (mant_lt b) (by omega) (by omega) hz.1 hz.2
        have ht := told_c (fixI (decide (9223372036854775808 ≤ b)) (finN ((plc b : Int) - 1074 + z) (mant b))) (fixE (finN ((plc b : Int) - 1074 + z) (mant b)))
        rw [told_fix] at ht
        rw [← e1, ← e2] at hv ht
        have VA := Lib.hid hv
        have TO := Lib.hid ht
        have t1 : (kindV b == 1) = false := by simpa using h1
        have t2 : (kindV b == 2) = false := by simpa using h2
        clear e1 e2 h1 h2 hz hv ht
        generalize fixedI b z = iv at *
        generalize fixedE b z = ie at *
        generalize kindV b = kv at *
        go_enter Try.func18, Try.ntmps18
        have tok1 := trivial
        go_wp2_with (first | (go_at_call 26; refine (SC.out _).mono ?_; rintro e w' ⟨rfl, rfl⟩) | (go_at_call 21; have tok2 := tok1; clear tok1; refine (KI.out _).mono ?_; rintro e w1 ⟨rfl, hw1⟩) | (go_at_call 21; refine (KI.out _).mono ?_; rintro e w2 ⟨rfl, hw2⟩) | (go_at_call 34; refine (RD.out _).mono ?_; rintro e w3 ⟨rfl, hw3⟩) | (go_at_call 35; refine (VA.out _).mono ?_; rintro e w4 ⟨rfl, hw4⟩) | (go_at_call 33; refine (TO.out _).mono ?_; rintro e w5 ⟨rfl, rfl⟩))
        go_ret2
        exact ⟨rfl, below_two (below_two (below_two hw1 hw2) hw3) hw4⟩
  · have hs : decide (-40 ≤ z ∧ z ≤ 40) = false := decide_eq_false hz
    have hS := scaleIs_c z
    rw [hs] at hS
    have SC := Lib.hid hS
    have e1 : fixedI b z = 0 := by unfold fixedI; rw [if_neg hz]
    have e2 : fixedE b z = 2 := by unfold fixedE; rw [if_neg hz]
    rw [e1, e2]
    clear hS hs hz e1 e2
    go_enter Try.func18, Try.ntmps18
    go_wp2_with (go_at_call 26; refine (SC.out _).mono ?_; rintro e w' ⟨rfl, rfl⟩)
    go_ret2
    exact ⟨rfl, Below.refl _ _⟩
end Go.Proofs.Ythkncbfaehgenaa
