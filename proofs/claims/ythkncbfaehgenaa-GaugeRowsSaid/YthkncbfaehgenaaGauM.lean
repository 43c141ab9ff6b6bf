/- Plain facts: the law of GaugeRises. -/
import Derived.Test.YthkncbfaehgenaaGauL
namespace Go.Proofs.Ythkncbfaehgenaa
open Go.RowKit NB
theorem cmp_swap (x y : Int) : compare y x = (compare x y).swap := by
  rcases Int.lt_trichotomy x y with h | h | h
  · rw [cmp_lt.2 h, cmp_gt.2 h]; rfl
  · rw [cmp_eq.2 h, cmp_eq.2 h.symm]; rfl
  · rw [cmp_gt.2 h, cmp_lt.2 h]; rfl
theorem datum_swap (x y : Ieee.Datum) : y.order x = (x.order y).map Ordering.swap := by
  cases x with
  | nan s f => cases y <;> rfl
  | infinity s =>
    cases y with
    | nan => rfl
    | infinity t => cases s <;> cases t <;> rfl
    | number t m j => cases s <;> rfl
  | number s m i =>
    cases y with
    | nan => rfl
    | infinity t => cases t <;> rfl
    | number t n j =>
      show some (compare (Ieee.signed t n (j - min j i).toNat) (Ieee.signed s m (i - min j i).toNat)) = some (compare (Ieee.signed s m (i - min i j).toNat) (Ieee.signed t n (j - min i j).toNat)).swap
      rw [Int.min_comm j i, cmp_swap]
theorem order_swap (a b : Nat) : FloatKind.f64.format.order b a = (FloatKind.f64.format.order a b).map Ordering.swap := datum_swap _ _
theorem ordV_swap (o : Option Ordering) : ordV (o.map Ordering.swap) = -ordV o := by
  rcases o with _ | o
  · rfl
  · cases o <;> rfl
def ordB (a b : Nat) : Bool := decide (kindV a ≠ 1 ∧ kindV b ≠ 1)
def ordI (a b : Nat) : Int := if ordB a b then ordV (FloatKind.f64.format.order a b) else 0
theorem ordB_swap (a b : Nat) : ordB b a = ordB a b := decide_eq_decide.2 and_comm
theorem ordI_swap (a b : Nat) : ordI b a = -ordI a b := by
  unfold ordI
  rw [ordB_swap]
  split
  · rw [order_swap a b, ordV_swap]
  · rfl
theorem order_any (a b : Nat) (w : World) (ha : a < 18446744073709551616) (hb : b < 18446744073709551616) :
    Calls Try.prog 23 #[.float .f64 a, .float .f64 b] w fun e w' => e = .returned (.tuple #[.int .i64 (ordI a b), .bool (ordB a b)]) ∧ w = w' := by
  unfold ordI
  by_cases h : kindV a ≠ 1 ∧ kindV b ≠ 1
  · have e : ordB a b = true := decide_eq_true h
    rw [e, if_pos rfl]
    exact order_num a b w ha hb h.1 h.2
  · have e : ordB a b = false := decide_eq_false h
    rw [e, if_neg (by decide)]
    exact order_nan a b w ha hb (by omega)
/-- turned round -/
def flip (a : Nat) : Nat := if 9223372036854775808 ≤ a then a - 9223372036854775808 else a + 9223372036854775808
theorem xor_flip {a : Nat} (h : a < 18446744073709551616) : a ^^^ 9223372036854775808 = flip a := by
  have h1 := Nat.xor_div_two_pow (a := a) (b := 9223372036854775808) (n := 63)
  have h2 := Nat.xor_mod_two_pow (a := a) (b := 9223372036854775808) (n := 63)
  rw [show (2 : Nat) ^ 63 = 9223372036854775808 from rfl] at h1 h2
  rw [show 9223372036854775808 % 9223372036854775808 = 0 from rfl, Nat.xor_zero] at h2
  rw [show 9223372036854775808 / 9223372036854775808 = 1 from rfl] at h1
  unfold flip
  generalize a ^^^ 9223372036854775808 = x at *
  rcases Nat.lt_or_ge a 9223372036854775808 with h3 | h3
  · rw [show a / 9223372036854775808 = 0 by omega, show (0 : Nat) ^^^ 1 = 1 from rfl] at h1
    rw [if_neg (by omega)]
    omega
  · rw [show a / 9223372036854775808 = 1 by omega, show (1 : Nat) ^^^ 1 = 0 from rfl] at h1
    rw [if_pos h3]
    omega
theorem flip_parts {a : Nat} (h : a < 18446744073709551616) : ex (flip a) = ex a ∧ fr (flip a) = fr a ∧ flip a < 18446744073709551616 ∧ decide (9223372036854775808 ≤ flip a) = !decide (9223372036854775808 ≤ a) := by
  have e : ∀ x : Nat, ex x = x / 4503599627370496 % 2048 := fun _ => rfl
  have f : ∀ x : Nat, fr x = x % 4503599627370496 := fun _ => rfl
  rw [e, e, f, f]
  unfold flip
  by_cases h2 : 9223372036854775808 ≤ a
  · rw [if_pos h2, decide_eq_true h2]
    exact ⟨by omega, by omega, by omega, decide_eq_false (by omega)⟩
  · rw [if_neg h2, decide_eq_false h2]
    exact ⟨by omega, by omega, by omega, decide_eq_true (by omega)⟩
theorem fixed_flip {a : Nat} {z : Int} (h : a < 18446744073709551616) (hz : -40 ≤ z) (hz2 : z ≤ 40) : fixedI (flip a) z = -fixedI a z ∧ fixedE (flip a) z = fixedE a z := by
  obtain ⟨e1, e2, e3, e4⟩ := flip_parts h
  have hk : kindV (flip a) = kindV a := by unfold kindV; rw [e1, e2]
  by_cases h1 : kindV a = 1
  · rw [(fixed_nan hz hz2 h1).1, (fixed_nan hz hz2 h1).2, (fixed_nan hz hz2 (hk.trans h1)).1, (fixed_nan hz hz2 (hk.trans h1)).2]
    exact ⟨rfl, rfl⟩
  by_cases h2 : kindV a = 2
  · rw [(fixed_inf hz hz2 h2).1, (fixed_inf hz hz2 h2).2, (fixed_inf hz hz2 (hk.trans h2)).1, (fixed_inf hz hz2 (hk.trans h2)).2]
    exact ⟨rfl, rfl⟩
  obtain ⟨x1, x2⟩ := fixed_val (b := a) hz hz2 h1 h2
  obtain ⟨y1, y2⟩ := fixed_val (b := flip a) hz hz2 (by omega) (by omega)
  have hv : valN (flip a) z = valN a z := by unfold valN fval mant plc; rw [e1, e2]
  rw [x1, x2, y1, y2, hv, e4]
  refine ⟨?_, rfl⟩
  generalize decide (9223372036854775808 ≤ a) = s
  unfold fixI
  split
  · rfl
  · cases s <;> simp
theorem fixed_ok {b : Nat} {z : Int} (hz : -40 ≤ z) (hz2 : z ≤ 40) (h : fixedE b z = 0) : kindV b ≠ 1 ∧ kindV b ≠ 2 ∧ valN b z ≤ 2305843009213693952 ∧ fixedI b z = if 9223372036854775808 ≤ b then -(valN b z : Int) else valN b z := by
  have h1 : kindV b ≠ 1 := fun h1 => by rw [(fixed_nan hz hz2 h1).2] at h; exact absurd h (by decide)
  have h2 : kindV b ≠ 2 := fun h2 => by rw [(fixed_inf hz hz2 h2).2] at h; exact absurd h (by decide)
  obtain ⟨x1, x2⟩ := fixed_val (b := b) hz hz2 h1 h2
  have h3 : valN b z ≤ 2305843009213693952 := by
    rcases Nat.lt_or_ge 2305843009213693952 (valN b z) with h4 | h4
    · rw [x2, (fix_out (s := true) h4).2] at h; exact absurd h (by decide)
    · exact h4
  refine ⟨h1, h2, h3, ?_⟩
  rw [x1, (fix_in h3).1]
  by_cases hb : 9223372036854775808 ≤ b
  · rw [if_pos hb, if_pos (decide_eq_true hb)]
  · rw [if_neg hb, if_neg (by simpa using hb)]
theorem val_mono {a b : Nat} (z : Int) (h : fval a ≤ fval b) : valN a z ≤ valN b z := rnd_mono _ h
theorem val_zero {a : Nat} (z : Int) (h : fval a = 0) : valN a z = 0 := by
  unfold valN
  rw [h]
  unfold rndV
  have := Nat.two_pow_pos (1074 - z).toNat
  rw [Nat.zero_mod, Nat.zero_div, if_neg (by omega)]
theorem ex_of_kind {b : Nat} (h1 : kindV b ≠ 1) (h2 : kindV b ≠ 2) : ex b ≠ 2047 := fun h3 => by
  unfold kindV at h1 h2
  rw [if_pos h3] at h1 h2
  split at h1 <;> split at h2 <;> omega
theorem rises_law {a b : Nat} {z : Int} (ha : a < 18446744073709551616) (hb : b < 18446744073709551616) (hz : -40 ≤ z) (hz2 : z ≤ 40) (h : fixedE a z = 0) (k : fixedE b z = 0) :
    ordB a b = true ∧ (ordI a b = -1 → fixedI a z ≤ fixedI b z) ∧ (ordI a b = 0 → fixedI a z = fixedI b z) := by
  obtain ⟨a1, a2, a3, a4⟩ := fixed_ok hz hz2 h
  obtain ⟨b1, b2, b3, b4⟩ := fixed_ok hz hz2 k
  have ho : ordB a b = true := decide_eq_true ⟨a1, b1⟩
  have hi : ordI a b = ordV (some (compare (sval a) (sval b))) := by
    unfold ordI
    rw [ho, if_pos rfl, order_fin ha hb (ex_of_kind a1 a2) (ex_of_kind b1 b2)]
  have hs : ∀ x : Nat, sval x = if 9223372036854775808 ≤ x then -(fval x : Int) else fval x := fun _ => rfl
  have hle : sval a ≤ sval b → fixedI a z ≤ fixedI b z := by
    intro hl
    rw [hs, hs] at hl
    rw [a4, b4]
    by_cases c1 : 9223372036854775808 ≤ a
    · rw [if_pos c1] at hl ⊢
      by_cases c2 : 9223372036854775808 ≤ b
      · rw [if_pos c2] at hl ⊢
        have := val_mono z (show fval b ≤ fval a by omega)
        omega
      · rw [if_neg c2]
        omega
    · rw [if_neg c1] at hl ⊢
      by_cases c2 : 9223372036854775808 ≤ b
      · rw [if_pos c2] at hl ⊢
        rw [val_zero z (show fval a = 0 by omega), val_zero z (show fval b = 0 by omega)]
        decide
      · rw [if_neg c2] at hl ⊢
        have := val_mono z (show fval a ≤ fval b by omega)
        omega
  have hge : sval b ≤ sval a → fixedI b z ≤ fixedI a z := by
    intro hl
    rw [hs, hs] at hl
    rw [a4, b4]
    by_cases c1 : 9223372036854775808 ≤ b
    · rw [if_pos c1] at hl ⊢
      by_cases c2 : 9223372036854775808 ≤ a
      · rw [if_pos c2] at hl ⊢
        have := val_mono z (show fval a ≤ fval b by omega)
        omega
      · rw [if_neg c2]
        omega
    · rw [if_neg c1] at hl ⊢
      by_cases c2 : 9223372036854775808 ≤ a
      · rw [if_pos c2] at hl ⊢
        rw [val_zero z (show fval b = 0 by omega), val_zero z (show fval a = 0 by omega)]
        decide
      · rw [if_neg c2] at hl ⊢
        have := val_mono z (show fval b ≤ fval a by omega)
        omega
  refine ⟨ho, fun h1 => ?_, fun h1 => ?_⟩
  · apply hle
    rw [hi] at h1
    rcases Int.lt_trichotomy (sval a) (sval b) with c | c | c
    · omega
    · omega
    · rw [cmp_gt.2 c] at h1; exact absurd h1 (by decide)
  · rw [hi] at h1
    rcases Int.lt_trichotomy (sval a) (sval b) with c | c | c
    · rw [cmp_lt.2 c] at h1; exact absurd h1 (by decide)
    · exact Int.le_antisymm (hle (by omega)) (hge (by omega))
    · rw [cmp_gt.2 c] at h1; exact absurd h1 (by decide)
end Go.Proofs.Ythkncbfaehgenaa
