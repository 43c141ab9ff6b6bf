/- Contracts of math/bits at this program: Div64. -/
import Derived.Test.YtpomhcclnhddmaaDoorShelf
import Derived.Test.YtpomhcclnhddmaaDoorDiv
import Derived.Test.YtpomhcclnhddmaaDoorRefF
import Derived.Deep.QuietTactic
import Derived.BigQuiet
import Derived.Deep.DeepCutAuto
import Derived.Deep.CutBlock
namespace Go.Proofs.YtpomhcclnhddmaaDoor
open Go.RowKit Go.Shelf
set_option linter.unusedVariables false
/-- how far a divisor is shifted -/
theorem norm_s (y : Nat) (hy0 : 0 < y) (hy : y < 18446744073709551616) : ∃ s : Nat, (64 - (Lib.bitLen y : Int)) = (s : Nat) ∧ s ≤ 63 ∧ 9223372036854775808 ≤ y * 2 ^ s ∧ y * 2 ^ s < 18446744073709551616 := by
  obtain ⟨a, b, c⟩ := Lib.bitLenAux_bounds 64 y (by simpa using hy) (by omega)
  have d := Lib.bitLenAux_le 64 y 64 (by simpa using hy)
  change 1 ≤ Lib.bitLen y at a
  change 2 ^ (Lib.bitLen y - 1) ≤ y at b
  change y < 2 ^ Lib.bitLen y at c
  change Lib.bitLen y ≤ 64 at d
  generalize Lib.bitLen y = L at *
  refine ⟨64 - L, by omega, by omega, ?_, ?_⟩
  · have h := Nat.mul_le_mul_right (2 ^ (64 - L)) b
    rw [← Nat.pow_add, show L - 1 + (64 - L) = 63 by omega, show (2 : Nat) ^ 63 = 9223372036854775808 by decide] at h
    exact h
  · have h := Nat.mul_lt_mul_of_pos_right c (show 0 < 2 ^ (64 - L) from Nat.pow_pos (by decide))
    rw [← Nat.pow_add, show L + (64 - L) = 64 by omega, show (2 : Nat) ^ 64 = 18446744073709551616 by decide] at h
    exact h
theorem or_words (a b s : Nat) (hb : b < 2 ^ s) (h : a * 2 ^ s + b < 18446744073709551616) : bits .or .u64 ((a * 2 ^ s : Nat) : Int) (b : Nat) = ((a * 2 ^ s + b : Nat) : Int) := by
  rw [bits_or_u64_nat _ _ (by omega) (by omega), Nat.mul_comm, ← Nat.two_pow_add_eq_or_of_lt hb a]
theorem and_low (a : Nat) (ha : a < 18446744073709551616) : bits .and .u64 (a : Nat) 4294967295 = ((a % 4294967296 : Nat) : Int) := by
  have h := bits_and_u64_nat a 4294967295 ha (by omega)
  rw [show a &&& 4294967295 = a % 4294967296 from Nat.and_two_pow_sub_one_eq_mod a 32] at h
  exact h
theorem lin1 {A t b r U u : Nat} (h1 : A = t * 4294967296 + b) (h2 : t + r = U) (h3 : r * 4294967296 + u < b) : U * 4294967296 + u < A := by
  rw [h1, ← h2, Nat.add_mul, Nat.add_assoc]; exact Nat.add_lt_add_left h3 _
theorem lin2 {A t b r U u : Nat} (h1 : A = t * 4294967296 + b) (h2 : t + r = U) (h3 : b ≤ r * 4294967296 + u) : A ≤ U * 4294967296 + u := by
  rw [h1, ← h2, Nat.add_mul, Nat.add_assoc]; exact Nat.add_le_add_left h3 _
/-- what is left behind a digit, mod 2^64 -/
theorem low_part {U u Y : Nat} (hY : 0 < Y) (hY2 : Y < 18446744073709551616) : ∃ A B C : Nat, IntKind.u64.wrap ((U : Int) * 4294967296) = (A : Nat) ∧ IntKind.u64.wrap ((A : Int) + (u : Int)) = (B : Nat) ∧
    IntKind.u64.wrap ((((U * 4294967296 + u) / Y : Nat) : Int) * (Y : Int)) = (C : Nat) ∧ IntKind.u64.wrap ((B : Int) - (C : Int)) = (((U * 4294967296 + u) % Y : Nat) : Int) := by
  have h1 := Nat.div_add_mod (U * 4294967296 + u) Y
  have h2 := Nat.mod_lt (U * 4294967296 + u) hY
  obtain ⟨M, hM⟩ : ∃ M, M = U * 4294967296 + u := ⟨_, rfl⟩
  rw [← hM] at h1 h2 ⊢
  rw [Nat.mul_comm] at h1
  obtain ⟨p, hp⟩ : ∃ p, p = M / Y * Y := ⟨_, rfl⟩
  refine ⟨U * 4294967296 % 18446744073709551616, (U * 4294967296 % 18446744073709551616 + u) % 18446744073709551616, p % 18446744073709551616, ?_, ?_, ?_, ?_⟩
  · rw [IntKind.wrap_u64]; omega
  · rw [IntKind.wrap_u64]; omega
  · rw [IntKind.wrap_u64, ← Int.natCast_mul, ← hp]; omega
  · rw [← hp] at h1
    generalize M % Y = R at *
    rw [IntKind.wrap_u64]; omega
theorem u64_sub1 {q : Nat} (h : 1 ≤ q) : Value.int .u64 ((q : Int) - 1) = .int .u64 ((q - 1 : Nat) : Int) := by
  rw [show ((q : Int) - 1) = ((q - 1 : Nat) : Int) by omega]
theorem u64_add {a b : Nat} : Value.int .u64 ((a : Int) + (b : Int)) = .int .u64 ((a + b : Nat) : Int) := by
  rw [Int.natCast_add]
/-- what a round of the digit's search knows -/
def KnI (Y U u q r : Nat) : Prop := (U * 4294967296 + u) / Y ≤ q ∧ q ≤ 4294967297 ∧ q * (Y / 4294967296) + r = U
/-- the first guess -/
theorem KnI.first {Y U u : Nat} (hY1 : 9223372036854775808 ≤ Y) (hY2 : Y < 18446744073709551616) (hU : U < Y) (hu : u < 4294967296) : KnI Y U u (U / (Y / 4294967296)) (U - U / (Y / 4294967296) * (Y / 4294967296)) := by
  obtain ⟨a, b, c⟩ := KN.first hY1 hY2 hU hu
  exact ⟨a, b, by have := Nat.div_mul_le_self U (Y / 4294967296); omega⟩
/-- the guess is too great -/
theorem KnI.down {Y U u q r : Nat} (h : KnI Y U u q r) (hU : U < Y) (hu : u < 4294967296) (hc : 4294967296 ≤ q ∨ r * 4294967296 + u < q * (Y % 4294967296)) : KnI Y U u (q - 1) (r + Y / 4294967296) ∧ 1 ≤ q := by
  obtain ⟨a, b, c⟩ := h
  have hlt : (U * 4294967296 + u) / Y < q := by
    rcases hc with hc | hc
    · have : (U * 4294967296 + u) / Y < 4294967296 := by
        refine (Nat.div_lt_iff_lt_mul (by omega)).2 ?_
        omega
      omega
    · exact KN.down (lin1 (KN.split q Y) c hc)
  generalize hD : (U * 4294967296 + u) / Y = D at *
  obtain ⟨p, rfl⟩ : ∃ p, q = p + 1 := ⟨q - 1, by omega⟩
  refine ⟨⟨by rw [hD]; omega, by omega, ?_⟩, by omega⟩
  rw [Nat.add_sub_cancel]
  rw [Nat.add_mul] at c
  omega
/-- the guess is right -/
theorem KnI.stop {Y U u q r : Nat} (h : KnI Y U u q r) (hY : 0 < Y) (hc : q * (Y % 4294967296) ≤ r * 4294967296 + u) : q = (U * 4294967296 + u) / Y ∧ r = U - (U * 4294967296 + u) / Y * (Y / 4294967296) := by
  obtain ⟨a, b, c⟩ := h
  have e : q = (U * 4294967296 + u) / Y := by
    exact KN.stop hY a (lin2 (KN.split q Y) c hc)
  exact ⟨e, by rw [← e]; omega⟩
theorem KnI.room {Y U u q r : Nat} (h : KnI Y U u q r) (hY : Y < 18446744073709551616) (hr : 4294967296 ≤ r) (hq : q ≤ 4294967296) : q * (Y % 4294967296) ≤ r * 4294967296 + u := by
  have h1 : q * (Y % 4294967296) ≤ 4294967296 * (Y % 4294967296) := Nat.mul_le_mul_right _ hq
  omega
theorem KnI.small {Y U u q r : Nat} (hq : q < 4294967296) : q * (Y % 4294967296) < 18446744073709551616 := by
  have h1 : q * (Y % 4294967296) ≤ q * 4294967296 := Nat.mul_le_mul_left _ (by omega)
  omega
set_option maxRecDepth 100000 in
set_option maxHeartbeats 4000000 in
theorem div64_c (hi lo y : Nat) (hh : hi < y) (hl : lo < 18446744073709551616) (hy : y < 18446744073709551616) (w : World) :
    Calls Tryd.prog 61 #[.int .u64 (hi : Nat), .int .u64 (lo : Nat), .int .u64 (y : Nat)] w fun e w' => e = .returned (.tuple #[.int .u64 (((hi * 18446744073709551616 + lo) / y : Nat) : Int), .int .u64 (((hi * 18446744073709551616 + lo) % y : Nat) : Int)]) ∧ ∃ q, w' = w.drewN q := by
  have hy0 : 0 < y := by omega
  have t1 : ((y : Int) == 0) = false := beq_eq_false_iff_ne.2 (by omega)
  have t2 : decide ((y : Int) ≤ (hi : Int)) = false := decide_eq_false (by omega)
  by_cases h0 : hi = 0
  · subst h0
    have e : 0 * 18446744073709551616 + lo = lo := by omega
    rw [e]
    have hq : lo / y ≤ lo := Nat.div_le_self _ _
    have f1 : ((lo : Int) / (y : Int)) = ((lo / y : Nat) : Int) := rfl
    obtain ⟨dq, hdq⟩ : ∃ q, q = lo / y := ⟨_, rfl⟩
    rw [← hdq]
    rw [← hdq] at f1 hq
    have f3 : IntKind.u64.wrap (dq : Nat) = (dq : Nat) := by rw [IntKind.wrap_u64]; omega
    clear hdq
    go_enter Tryd.func61, Tryd.ntmps61
    go_upto_region 6 with fail
    go_quiet (fail)
    go_wp2_with fail
    go_ret2
    exact ⟨rfl, _, rfl⟩
  · have t3 : ((hi : Int) == 0) = false := beq_eq_false_iff_ne.2 (by omega)
    have c := Tryd.bits_LeadingZeros64 (y : Nat) w (by omega) (by omega)
    rw [Int.toNat_natCast] at c
    obtain ⟨s, hs, hs63, hY1, hY2⟩ := norm_s y hy0 hy
    rw [hs] at c
    have hws := KN.words (hi := hi) hs63 hl
    have hsh := @KN.shifted (hi * 18446744073709551616 + lo) y s
    have eor := or_words hi (lo / 2 ^ (64 - s)) s hws.2
    obtain ⟨r, hr⟩ : ∃ r, r = 64 - s := ⟨_, rfl⟩
    rw [← hr] at hws eor
    have hlp : lo / 2 ^ r < 18446744073709551616 := Nat.lt_of_le_of_lt (Nat.div_le_self _ _) hl
    have g8 : (lo : Int) / 2 ^ r = ((lo / 2 ^ r : Nat) : Int) := by simp
    have g3' : ((y : Int) * 2 ^ s) = ((y * 2 ^ s : Nat) : Int) := by simp
    have g4' : ((hi : Int) * 2 ^ s) = ((hi * 2 ^ s : Nat) : Int) := by simp
    have g5' : ((lo : Int) * 2 ^ s) = ((lo * 2 ^ s : Nat) : Int) := by simp
    have h1 : (hi + 1) * 2 ^ s ≤ y * 2 ^ s := Nat.mul_le_mul_right _ hh
    rw [Nat.add_mul, Nat.one_mul] at h1
    have g1 : IntKind.u64.wrap (s : Nat) = (s : Nat) := by rw [IntKind.wrap_u64]; omega
    have g2 : min s 64 = s := by omega
    have g6 : IntKind.u64.wrap (64 - (s : Int)) = (r : Nat) := by rw [IntKind.wrap_u64]; omega
    have g7 : min r 64 = r := by omega
    clear hs hr hs63
    obtain ⟨lr, hlr⟩ : ∃ l, l = lo / 2 ^ r := ⟨_, rfl⟩
    rw [← hlr] at hws eor hlp g8
    generalize hT : 2 ^ s = P at hws hsh eor hY1 hY2 h1 g3' g4' g5'
    have hHS := hws.2
    have hN := hws.1
    obtain ⟨Y, hY⟩ : ∃ Y, Y = y * P := ⟨_, rfl⟩
    obtain ⟨hp, hhp⟩ : ∃ Y, Y = hi * P := ⟨_, rfl⟩
    obtain ⟨lp, hlp2⟩ : ∃ Y, Y = lo * P := ⟨_, rfl⟩
    rw [← hY] at hY1 hY2 h1 g3' hsh
    rw [← hhp] at h1 g4' eor hN
    rw [← hlp2] at g5' hN
    have hUY : hp + lr < Y := by omega
    have eor := eor (by omega)
    have g3 : IntKind.u64.wrap ((y : Int) * 2 ^ s) = (Y : Int) := by rw [IntKind.wrap_u64, g3']; omega
    have g4 : IntKind.u64.wrap ((hi : Int) * 2 ^ s) = (hp : Int) := by rw [IntKind.wrap_u64, g4']; omega
    obtain ⟨V, hV⟩ : ∃ V, V = lp % 18446744073709551616 := ⟨_, rfl⟩
    have g5 : IntKind.u64.wrap ((lo : Int) * 2 ^ s) = (V : Int) := by rw [IntKind.wrap_u64, g5']; omega
    rw [← hV] at hN
    have hV64 : V < 18446744073709551616 := by omega
    obtain ⟨U, hU⟩ : ∃ U, U = hp + lr := ⟨_, rfl⟩
    rw [← hU] at hUY eor hN
    clear g3' g4' g5' h1 hws hlp hV hU hlp2 hhp
    have g10 := and_low Y hY2
    have g11 := and_low V hV64
    obtain ⟨y1, hy1⟩ : ∃ z, z = Y / 4294967296 := ⟨_, rfl⟩
    obtain ⟨y0, hy0'⟩ : ∃ z, z = Y % 4294967296 := ⟨_, rfl⟩
    obtain ⟨u1, hu1⟩ : ∃ z, z = V / 4294967296 := ⟨_, rfl⟩
    obtain ⟨u0, hu0⟩ : ∃ z, z = V % 4294967296 := ⟨_, rfl⟩
    have g9 : (Y : Int) / 4294967296 = (y1 : Nat) := by omega
    have g12 : (V : Int) / 4294967296 = (u1 : Nat) := by omega
    rw [← hy0'] at g10
    rw [← hu0] at g11
    have hu1b : u1 < 4294967296 := by omega
    have hu0b : u0 < 4294967296 := by omega
    have hVs : V = u1 * 4294967296 + u0 := by omega
    rw [hVs, ← Nat.add_assoc] at hN
    have h2 := @KN.two Y U u1 u0 (by omega)
    have k1 := KnI.first hY1 hY2 hUY hu1b
    rw [← hy1] at k1
    have y1p : 2147483648 ≤ y1 := by omega
    have y1b : y1 < 4294967296 := by omega
    have y0b : y0 < 4294967296 := by omega
    clear hu1 hu0 hV64
    obtain ⟨q1, hq1⟩ : ∃ q, q = U / y1 := ⟨_, rfl⟩
    have g13 : (U : Int) / (y1 : Int) = (q1 : Nat) := by rw [hq1]; rfl
    rw [← hq1] at k1
    obtain ⟨r1, hr1⟩ : ∃ q, q = U - q1 * y1 := ⟨_, rfl⟩
    rw [← hr1] at k1
    have hqy : q1 * y1 ≤ U := by rw [hq1]; exact Nat.div_mul_le_self _ _
    have g14 : IntKind.u64.wrap ((q1 : Int) * (y1 : Int)) = ((q1 * y1 : Nat) : Int) := by rw [IntKind.wrap_u64, ← Int.natCast_mul]; omega
    have g15 : IntKind.u64.wrap ((U : Int) - ((q1 * y1 : Nat) : Int)) = (r1 : Nat) := by rw [IntKind.wrap_u64]; omega
    have g16 : IntKind.u64.wrap (q1 : Nat) = (q1 : Nat) := by rw [IntKind.wrap_u64]; have := k1.2.1; omega
    have r1b : r1 < 4294967296 := by
      have h3 : r1 = U % y1 := by rw [hr1, hq1]; have := Nat.div_add_mod U y1; rw [Nat.mul_comm] at this; omega
      have := Nat.mod_lt U (show 0 < y1 by omega)
      omega
    generalize hqm : q1 * y1 = qm at *
    have HSH := Lib.hid hsh
    have HN := Lib.hid hN
    have HT := Lib.hid hT
    have H2 := Lib.hid h2
    have HY1 := Lib.hid hy1
    have HY0 := Lib.hid hy0'
    clear hsh hN hT h2 hY hlr hr1 hqm hq1 hVs
    have HK := Lib.hid k1
    clear hy1 hy0' k1
    obtain ⟨D1, hD1⟩ : ∃ D, D = (U * 4294967296 + u1) / Y := ⟨_, rfl⟩
    have HD := Lib.hid hD1
    clear hD1
    go_enter Tryd.func61, Tryd.ntmps61
    go_wp2_with fail
    refine c.mono ?_
    rintro e w' ⟨rfl, rfl⟩
    go_upto_block 0 with fail
    go_cut [15, 16] (fun v15 v16 wx => ∃ r : Nat, v15 = .int .u64 (D1 : Nat) ∧ v16 = .int .u64 (r : Nat) ∧ wx = w')
    case first =>
      go_wp2_with fail
      go_loopw [15, 16] (fun vq vr wr => ∃ q r : Nat, vq = .int .u64 (q : Nat) ∧ vr = .int .u64 (r : Nat) ∧ KnI Y U u1 q r ∧ r < 4294967296 ∧ wr = w') (fun vq _ _ => (intOf vq).toNat)
      case atStart => exact ⟨q1, r1, rfl, rfl, HK.out, r1b, rfl⟩
      case round =>
        obtain ⟨q, r', rfl, rfl, hk, hr4, rfl⟩ := hrel
        have HK2 := Lib.hid hk
        have hq1' := hk.2.1
        obtain ⟨A, hA⟩ : ∃ A, A = r' * 4294967296 := ⟨_, rfl⟩
        obtain ⟨B, hB⟩ : ∃ B, B = A + u1 := ⟨_, rfl⟩
        obtain ⟨m, hm⟩ : ∃ m, m = q * y0 := ⟨_, rfl⟩
        have ew1 : IntKind.u64.wrap (4294967296 * (r' : Int)) = (A : Nat) := by rw [IntKind.wrap_u64]; omega
        have ew2 : IntKind.u64.wrap ((A : Int) + (u1 : Int)) = (B : Nat) := by rw [IntKind.wrap_u64]; omega
        have HM := Lib.hid hm
        have HB := Lib.hid (show B = r' * 4294967296 + u1 by omega)
        clear hk HK hA hB
        by_cases hg : 4294967296 ≤ q
        · have tg : (4294967296 : Int) ≤ (q : Int) := by omega
          clear ew1 ew2 hm
          obtain ⟨hk', hq0⟩ := HK2.out.down hUY hu1b (Or.inl hg)
          rw [← HY1.out] at hk'
          have HK3 := Lib.hid hk'
          have hq1p : (1 : Int) ≤ (q : Int) := by omega
          have hpq : q - 1 ≤ 4294967296 := by omega
          clear hk'
          by_cases hbk : 4294967296 ≤ r' + y1
          · have tb : (4294967296 : Int) ≤ (r' : Int) + (y1 : Int) := by omega
            go_wp2_with fail
            go_meet
            have hst := HK3.out.stop (by omega) (HK3.out.room hY2 hbk hpq)
            rw [← HD.out] at hst
            exact ⟨r' + y1, by rw [← hst.1]; exact u64_sub1 (by omega), u64_add, rfl⟩
          · have tb : decide ((4294967296 : Int) ≤ (r' : Int) + (y1 : Int)) = false := decide_eq_false (by omega)
            go_wp2_with fail
            exact ⟨⟨q - 1, r' + y1, u64_sub1 (by omega), u64_add, HK3.out, by omega, trivial⟩, by simp [intOf]; omega⟩
        · have tg : decide ((4294967296 : Int) ≤ (q : Int)) = false := decide_eq_false (by omega)
          have hms : m < 18446744073709551616 := by rw [hm, HY0.out]; exact @KnI.small Y U u1 q r' (by omega)
          have ew3 : IntKind.u64.wrap ((q : Int) * (y0 : Int)) = (m : Nat) := by rw [IntKind.wrap_u64, ← Int.natCast_mul, ← hm]; omega
          clear hm
          by_cases hl : B < m
          · have tl : (B : Int) < (m : Int) := by omega
            obtain ⟨hk', hq0⟩ := HK2.out.down hUY hu1b (Or.inr (by rw [← HB.out, ← HY0.out, ← HM.out]; exact hl))
            rw [← HY1.out] at hk'
            have HK3 := Lib.hid hk'
            have hq1p : (1 : Int) ≤ (q : Int) := by omega
            have hpq : q - 1 ≤ 4294967296 := by omega
            clear hk'
            by_cases hbk : 4294967296 ≤ r' + y1
            · have tb : (4294967296 : Int) ≤ (r' : Int) + (y1 : Int) := by omega
              go_wp2_with fail
              go_meet
              have hst := HK3.out.stop (by omega) (HK3.out.room hY2 hbk hpq)
              rw [← HD.out] at hst
              exact ⟨r' + y1, by rw [← hst.1]; exact u64_sub1 (by omega), u64_add, rfl⟩
            · have tb : decide ((4294967296 : Int) ≤ (r' : Int) + (y1 : Int)) = false := decide_eq_false (by omega)
              go_wp2_with fail
              exact ⟨⟨q - 1, r' + y1, u64_sub1 (by omega), u64_add, HK3.out, by omega, trivial⟩, by simp [intOf]; omega⟩
          · have tl : decide ((B : Int) < (m : Int)) = false := decide_eq_false (by omega)
            go_wp2_with fail
            go_meet
            have hst := HK2.out.stop (by omega) (by rw [← HB.out, ← HY0.out, ← HM.out]; omega)
            rw [← HD.out] at hst
            exact ⟨r', by rw [← hst.1], rfl, rfl⟩
    case rest =>
      obtain ⟨r', rfl, rfl, rfl⟩ := hcut
      clear HK g13 g14 g15 g16 hqy r1b
      have hlt1 := (KN.first hY1 hY2 hUY hu1b).2.2
      obtain ⟨A1, B1, C1, a1, a2, a3, a4⟩ := @low_part U u1 Y (by omega) hY2
      have hR1 := Nat.mod_lt (U * 4294967296 + u1) (show 0 < Y by omega)
      rw [← HD.out] at a3 hlt1
      obtain ⟨R1, hR1'⟩ : ∃ R, R = (U * 4294967296 + u1) % Y := ⟨_, rfl⟩
      rw [← hR1'] at a4 hR1
      have HR1 := Lib.hid hR1'
      clear hR1'
      have k2 := KnI.first hY1 hY2 hR1 hu0b
      have hlt2 := (KN.first hY1 hY2 hR1 hu0b).2.2
      rw [← HY1.out] at k2
      obtain ⟨q2, hq2⟩ : ∃ q, q = R1 / y1 := ⟨_, rfl⟩
      have g13 : (R1 : Int) / (y1 : Int) = (q2 : Nat) := by rw [hq2]; rfl
      rw [← hq2] at k2
      obtain ⟨r2, hr2⟩ : ∃ q, q = R1 - q2 * y1 := ⟨_, rfl⟩
      rw [← hr2] at k2
      have hqy : q2 * y1 ≤ R1 := by rw [hq2]; exact Nat.div_mul_le_self _ _
      have g14 : IntKind.u64.wrap ((q2 : Int) * (y1 : Int)) = ((q2 * y1 : Nat) : Int) := by rw [IntKind.wrap_u64, ← Int.natCast_mul]; omega
      have g15 : IntKind.u64.wrap ((R1 : Int) - ((q2 * y1 : Nat) : Int)) = (r2 : Nat) := by rw [IntKind.wrap_u64]; omega
      have g16 : IntKind.u64.wrap (q2 : Nat) = (q2 : Nat) := by rw [IntKind.wrap_u64]; have := k2.2.1; omega
      have r2b : r2 < 4294967296 := by
        have h3 : r2 = R1 % y1 := by rw [hr2, hq2]; have := Nat.div_add_mod R1 y1; rw [Nat.mul_comm] at this; omega
        have := Nat.mod_lt R1 (show 0 < y1 by omega)
        omega
      generalize hqm : q2 * y1 = qm2 at *
      have HK := Lib.hid k2
      clear k2 hq2 hr2 hqm
      obtain ⟨D2, hD2⟩ : ∃ D, D = (R1 * 4294967296 + u0) / Y := ⟨_, rfl⟩
      rw [← hD2] at hlt2
      have HDD := Lib.hid hD2
      clear hD2
      go_upto_block 2 with fail
      go_cut [18, 16] (fun v18 v16 wx => ∃ r : Nat, v18 = .int .u64 (D2 : Nat) ∧ v16 = .int .u64 (r : Nat) ∧ wx = wc)
      case first =>
        go_wp2_with fail
        go_loopw [18, 16] (fun vq vr wr => ∃ q r : Nat, vq = .int .u64 (q : Nat) ∧ vr = .int .u64 (r : Nat) ∧ KnI Y R1 u0 q r ∧ r < 4294967296 ∧ wr = wc) (fun vq _ _ => (intOf vq).toNat)
        case atStart => exact ⟨q2, r2, rfl, rfl, HK.out, r2b, rfl⟩
        case round =>
          obtain ⟨q, r', rfl, rfl, hk, hr4, rfl⟩ := hrel
          have HK2 := Lib.hid hk
          have hq1' := hk.2.1
          obtain ⟨A, hA⟩ : ∃ A, A = r' * 4294967296 := ⟨_, rfl⟩
          obtain ⟨B, hB⟩ : ∃ B, B = A + u0 := ⟨_, rfl⟩
          obtain ⟨m, hm⟩ : ∃ m, m = q * y0 := ⟨_, rfl⟩
          have ew1 : IntKind.u64.wrap (4294967296 * (r' : Int)) = (A : Nat) := by rw [IntKind.wrap_u64]; omega
          have ew2 : IntKind.u64.wrap ((A : Int) + (u0 : Int)) = (B : Nat) := by rw [IntKind.wrap_u64]; omega
          have HM := Lib.hid hm
          have HB := Lib.hid (show B = r' * 4294967296 + u0 by omega)
          clear hk HK hA hB
          by_cases hg : 4294967296 ≤ q
          · have tg : (4294967296 : Int) ≤ (q : Int) := by omega
            clear ew1 ew2 hm
            obtain ⟨hk', hq0⟩ := HK2.out.down hR1 hu0b (Or.inl hg)
            rw [← HY1.out] at hk'
            have HK3 := Lib.hid hk'
            have hq1p : (1 : Int) ≤ (q : Int) := by omega
            have hpq : q - 1 ≤ 4294967296 := by omega
            clear hk'
            by_cases hbk : 4294967296 ≤ r' + y1
            · have tb : (4294967296 : Int) ≤ (r' : Int) + (y1 : Int) := by omega
              go_wp2_with fail
              go_meet
              have hst := HK3.out.stop (by omega) (HK3.out.room hY2 hbk hpq)
              rw [← HDD.out] at hst
              exact ⟨r' + y1, by rw [← hst.1]; exact u64_sub1 (by omega), u64_add, rfl⟩
            · have tb : decide ((4294967296 : Int) ≤ (r' : Int) + (y1 : Int)) = false := decide_eq_false (by omega)
              go_wp2_with fail
              exact ⟨⟨q - 1, r' + y1, u64_sub1 (by omega), u64_add, HK3.out, by omega, trivial⟩, by simp [intOf]; omega⟩
          · have tg : decide ((4294967296 : Int) ≤ (q : Int)) = false := decide_eq_false (by omega)
            have hms : m < 18446744073709551616 := by rw [hm, HY0.out]; exact @KnI.small Y R1 u0 q r' (by omega)
            have ew3 : IntKind.u64.wrap ((q : Int) * (y0 : Int)) = (m : Nat) := by rw [IntKind.wrap_u64, ← Int.natCast_mul, ← hm]; omega
            clear hm
            by_cases hl : B < m
            · have tl : (B : Int) < (m : Int) := by omega
              obtain ⟨hk', hq0⟩ := HK2.out.down hR1 hu0b (Or.inr (by rw [← HB.out, ← HY0.out, ← HM.out]; exact hl))
              rw [← HY1.out] at hk'
              have HK3 := Lib.hid hk'
              have hq1p : (1 : Int) ≤ (q : Int) := by omega
              have hpq : q - 1 ≤ 4294967296 := by omega
              clear hk'
              by_cases hbk : 4294967296 ≤ r' + y1
              · have tb : (4294967296 : Int) ≤ (r' : Int) + (y1 : Int) := by omega
                go_wp2_with fail
                go_meet
                have hst := HK3.out.stop (by omega) (HK3.out.room hY2 hbk hpq)
                rw [← HDD.out] at hst
                exact ⟨r' + y1, by rw [← hst.1]; exact u64_sub1 (by omega), u64_add, rfl⟩
              · have tb : decide ((4294967296 : Int) ≤ (r' : Int) + (y1 : Int)) = false := decide_eq_false (by omega)
                go_wp2_with fail
                exact ⟨⟨q - 1, r' + y1, u64_sub1 (by omega), u64_add, HK3.out, by omega, trivial⟩, by simp [intOf]; omega⟩
            · have tl : decide ((B : Int) < (m : Int)) = false := decide_eq_false (by omega)
              go_wp2_with fail
              go_meet
              have hst := HK2.out.stop (by omega) (by rw [← HB.out, ← HY0.out, ← HM.out]; omega)
              rw [← HDD.out] at hst
              exact ⟨r', by rw [← hst.1], rfl, rfl⟩
      case rest =>
        obtain ⟨r', rfl, rfl, rfl⟩ := hcut
        clear HK g13 g14 g15 g16 hqy r2b a1 a2 a3 a4
        obtain ⟨A2, B2, C2, a1, a2, a3, a4⟩ := @low_part R1 u0 Y (by omega) hY2
        rw [← HDD.out] at a3
        obtain ⟨R2, hR2⟩ : ∃ R, R = (R1 * 4294967296 + u0) % Y := ⟨_, rfl⟩
        rw [← hR2] at a4
        have b1 : IntKind.u64.wrap ((D1 : Int) * 4294967296) = ((D1 * 4294967296 : Nat) : Int) := by rw [IntKind.wrap_u64]; omega
        have b2 : IntKind.u64.wrap (((D1 * 4294967296 : Nat) : Int) + (D2 : Int)) = ((D1 * 4294967296 + D2 : Nat) : Int) := by rw [IntKind.wrap_u64]; omega
        have b3 : (R2 : Int) / 2 ^ s = ((R2 / P : Nat) : Int) := by rw [← HT.out]; simp
        have HR2 := Lib.hid hR2
        obtain ⟨Q, hQ⟩ : ∃ Q, Q = D1 * 4294967296 := ⟨_, rfl⟩
        obtain ⟨Q2, hQ2⟩ : ∃ Q, Q = D1 * 4294967296 + D2 := ⟨_, rfl⟩
        obtain ⟨R3, hR3⟩ : ∃ Q, Q = R2 / P := ⟨_, rfl⟩
        rw [← hQ] at b1
        rw [← hQ2, ← hQ] at b2
        rw [← hR3] at b3
        have HQ2 := Lib.hid hQ2
        have HR3 := Lib.hid hR3
        clear hR2 hQ hQ2 hR3
        go_wp2_with fail
        go_ret2
        have e1 : (hi * 18446744073709551616 + lo) / y = Q2 := by
          rw [← HSH.out.1, HN.out, H2.out.1, HQ2.out, HD.out, HDD.out, HR1.out]
        have e2 : (hi * 18446744073709551616 + lo) % y = R3 := by
          rw [← HSH.out.2, HN.out, H2.out.2, HR3.out, HR2.out, HR1.out]
        rw [e1, e2]
        exact ⟨rfl, 0, by simp [World.drewN_zero]⟩
end Go.Proofs.YtpomhcclnhddmaaDoor
