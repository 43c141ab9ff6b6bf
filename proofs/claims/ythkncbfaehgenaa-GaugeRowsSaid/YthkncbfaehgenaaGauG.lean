/- Contracts of the gauge: scaleIs, told, rounded, read, value, Fixed. -/
import Derived.Test.YthkncbfaehgenaaGauF
import Derived.Deep.QuietTactic
import Derived.BigQuiet
namespace Go.Proofs.Ythkncbfaehgenaa
open Go.RowKit NB
theorem ret_bb {a b : Bool} (h : a = b) : Ending.returned (.bool a) = .returned (.bool b) := by rw [h]
set_option maxHeartbeats 400000 in
theorem scaleIs_c (z : Int) (w : World) :
    Calls Try.prog 26 #[.int .i64 z] w fun e w' => e = .returned (.bool (decide (-40 ≤ z ∧ z ≤ 40))) ∧ w = w' := by
  by_cases h1 : -40 ≤ z
  · by_cases h2 : z ≤ 40
    all_goals
      go_enter Try.func26, Try.ntmps26
      go_wp2
      go_ret
      exact ⟨ret_bb (by simp; omega), rfl⟩
  · go_enter Try.func26, Try.ntmps26
    go_wp2
    go_ret
    exact ⟨ret_bb (by simp; omega), rfl⟩
theorem ret_two' {k k' : IntKind} {a b c d : Int} (h : a = b) (h2 : c = d) : Ending.returned (.tuple #[.int k a, .int k' c]) = .returned (.tuple #[.int k b, .int k' d]) := by rw [h, h2]
set_option maxHeartbeats 400000 in
theorem told_c (v e : Int) (w : World) :
    Calls Try.prog 33 #[.int .i64 v, .int .i64 e] w fun d w' => d = .returned (.tuple #[.int .i64 (if e = 0 then v else 0), .int .i64 e]) ∧ w = w' := by
  by_cases h : e = 0
  · have t : (e != 0) = false := by simp [h]
    have H := Lib.hid h
    clear h
    go_enter Try.func33, Try.ntmps33
    go_wp2
    go_ret2
    exact ⟨by first | rfl | simp [H.out], rfl⟩
  · have t : (e != 0) = true := by simp [h]
    have H := Lib.hid h
    clear h
    go_enter Try.func33, Try.ntmps33
    go_wp2
    go_ret2
    exact ⟨by first | rfl | simp [H.out], rfl⟩
/-- n / 2^l, rounded to the nearest; of two to the even one -/
def rndV (n l : Nat) : Nat := if 2 ^ l < n % 2 ^ l + n % 2 ^ l ∨ (2 ^ l = n % 2 ^ l + n % 2 ^ l ∧ n / 2 ^ l % 2 = 1) then n / 2 ^ l + 1 else n / 2 ^ l
theorem rnd_facts (n l : Nat) (hn : n < 18446744073709551616) (h0 : 0 < l) (hl : l ≤ 54) : IntKind.u64.wrap ((2 : Int) ^ l) = ((2 ^ l : Nat) : Int) ∧ IntKind.u64.wrap (((2 ^ l : Nat) : Int) - 1) = ((2 ^ l - 1 : Nat) : Int) ∧ bits .and .u64 (n : Int) ((2 ^ l - 1 : Nat) : Int) = ((n % 2 ^ l : Nat) : Int) ∧
    ((2 ^ l : Nat) : Int) / 2 = ((2 ^ l / 2 : Nat) : Int) ∧ (n : Int) / (2 : Int) ^ l = ((n / 2 ^ l : Nat) : Int) ∧ 2 ^ l / 2 + 2 ^ l / 2 = 2 ^ l ∧ n / 2 ^ l < 9223372036854775808 ∧ n % 2 ^ l < 2 ^ l ∧ 0 < 2 ^ l / 2 ∧ 2 ^ l < 18446744073709551616 := by
  have hp := Nat.two_pow_pos l
  have hb : 2 ^ l ≤ 2 ^ 54 := Nat.pow_le_pow_right (by decide) hl
  have e0 : ((2 : Int) ^ l) = ((2 ^ l : Nat) : Int) := by push_cast; rfl
  obtain ⟨j, rfl⟩ : ∃ j, l = j + 1 := ⟨l - 1, by omega⟩
  have h2 : 2 ^ (j + 1) = 2 * 2 ^ j := Nat.pow_succ'
  have hp2 := Nat.two_pow_pos j
  have hd : n / 2 ^ (j + 1) ≤ n / 2 := by
    rw [h2, ← Nat.div_div_eq_div_mul]
    exact Nat.div_le_self _ _
  refine ⟨?_, ?_, ?_, ?_, ?_, ?_, ?_, Nat.mod_lt _ hp, ?_, ?_⟩
  · rw [e0, IntKind.wrap_u64]; omega
  · rw [IntKind.wrap_u64]; omega
  · rw [u64_and_nat n _ hn (by omega), Nat.and_two_pow_sub_one_eq_mod]
  · omega
  · rw [e0]; rfl
  · omega
  · omega
  · omega
  · omega
set_option maxHeartbeats 2000000 in
theorem rounded_c (n l : Nat) (w : World) (hn : n < 18446744073709551616) (h0 : 0 < l) (hl : l ≤ 54) :
    Calls Try.prog 57 #[.int .u64 n, .int .i64 l] w fun e w' => e = .returned (.int .u64 (rndV n l : Nat)) ∧ ∃ q, w' = w.drewN q := by
  obtain ⟨e1, e2, e3, e4, e5, f1, f2, f3, f4, f5⟩ := rnd_facts n l hn h0 hl
  have hv : rndV n l = if 2 ^ l < n % 2 ^ l + n % 2 ^ l ∨ (2 ^ l = n % 2 ^ l + n % 2 ^ l ∧ n / 2 ^ l % 2 = 1) then n / 2 ^ l + 1 else n / 2 ^ l := rfl
  generalize hQ : n / 2 ^ l = Q at *
  generalize hR : n % 2 ^ l = R at *
  generalize hH : 2 ^ l / 2 = H at *
  generalize hP : 2 ^ l = P at *
  have E1 := Lib.hid e1
  have E2 := Lib.hid e2
  have E3 := Lib.hid e3
  have E4 := Lib.hid e4
  have E5 := Lib.hid e5
  have HV := Lib.hid hv
  have F1 := Lib.hid f1
  clear e1 e2 e3 e4 e5 hv hQ hR hH hP f1
  go_enter Try.func57, Try.ntmps57
  go_wp2
  go_quiet (fail)
  rw [E1.out, E2.out, E3.out, E4.out, E5.out]
  have hbit : bits .and .u64 (Q : Int) 1 = ((Q % 2 : Nat) : Int) := by
    have h := u64_and_nat Q 1 (by omega) (by decide)
    rw [show ((1 : Nat) : Int) = 1 from rfl] at h
    rw [h, show (1 : Nat) = 2 ^ 1 - 1 from rfl, Nat.and_two_pow_sub_one_eq_mod]
  by_cases h1 : H < R
  · go_wp2
    go_ret
    exact ⟨ret_i (by have := F1.out; rw [HV.out, if_pos (.inl (by omega))]; omega), _, rfl⟩
  · by_cases h2 : R = H
    · have t2 : ((R : Int) == H) = true := by simp [h2]
      have H2 := Lib.hid h2
      clear h2
      by_cases h3 : Q % 2 = 1
      · have t3 : ((Q : Int) % 2 == 1) = true := by rw [beq_iff_eq]; omega
        have H3 := Lib.hid h3
        clear h3
        go_wp2
        go_ret
        exact ⟨ret_i (by have := F1.out; have := H2.out; rw [HV.out, if_pos (.inr ⟨by omega, H3.out⟩)]; omega), _, rfl⟩
      · have t3 : ((Q : Int) % 2 == 1) = false := by rw [beq_eq_false_iff_ne]; omega
        have H3 := Lib.hid h3
        clear h3
        go_wp2
        go_ret
        exact ⟨ret_i (by have := F1.out; have := H2.out; have := H3.out; rw [HV.out, if_neg (by omega)]), _, rfl⟩
    · have t2 : ((R : Int) == H) = false := by rw [beq_eq_false_iff_ne]; omega
      have H2 := Lib.hid h2
      clear h2
      go_wp2
      go_ret
      exact ⟨ret_i (by have := F1.out; have := H2.out; rw [HV.out, if_neg (by omega)]), _, rfl⟩
set_option maxHeartbeats 400000 in
theorem rounded_far (n l : Nat) (w : World) (hl : 54 < l) (hl2 : l ≤ 5000) :
    Calls Try.prog 57 #[.int .u64 n, .int .i64 l] w fun e w' => e = .returned (.int .u64 0) ∧ ∃ q, w' = w.drewN q := by
  go_enter Try.func57, Try.ntmps57
  go_wp2
  go_ret
  exact ⟨rfl, 0, rfl⟩
theorem rnd_far (n l : Nat) (hn : n < 9007199254740992) (hl : 54 < l) : rndV n l = 0 := by
  have h1 : 2 ^ 55 ≤ 2 ^ l := Nat.pow_le_pow_right (by decide) hl
  have h2 : n < 2 ^ l := by omega
  unfold rndV
  rw [Nat.mod_eq_of_lt h2, Nat.div_eq_of_lt h2, if_neg (by omega)]
theorem rounded_any (n l : Nat) (w : World) (hn : n < 9007199254740992) (h0 : 0 < l) (hl : l ≤ 5000) :
    Calls Try.prog 57 #[.int .u64 n, .int .i64 l] w fun e w' => e = .returned (.int .u64 (rndV n l : Nat)) ∧ ∃ q, w' = w.drewN q := by
  by_cases h : l ≤ 54
  · exact rounded_c n l w (by omega) h0 h
  · rw [rnd_far n l hn (by omega)]
    exact rounded_far n l w (by omega) hl

theorem run_store_float (P : Program) (w : World) (a : Addr) (m : Mode) (k : FloatKind) (b : Nat) : (store a (.float k b) m).run P w = stored P w a (.float k b) m := run_store P w a _ m rfl
attribute [local go_sem] run_store_float
theorem and_fr {b : Nat} (hb : b < 18446744073709551616) : bits .and .u64 (b : Int) 4503599627370495 = (fr b : Nat) := by
  have h := u64_and_nat b 4503599627370495 hb (by decide)
  rw [show ((4503599627370495 : Nat) : Int) = 4503599627370495 from rfl] at h
  rw [h, show 4503599627370495 = 2 ^ 52 - 1 from rfl, Nat.and_two_pow_sub_one_eq_mod]
  rfl
theorem or_fr (b : Nat) : bits .or .u64 (fr b : Nat) 4503599627370496 = ((4503599627370496 + fr b : Nat) : Int) := by
  have hf := fr_lt b
  have h := u64_or_nat (fr b) 4503599627370496 (by omega) (by decide)
  rw [show ((4503599627370496 : Nat) : Int) = 4503599627370496 from rfl] at h
  have h2 : 4503599627370496 ||| fr b = 4503599627370496 + fr b := by
    have := Nat.two_pow_add_eq_or_of_lt (i := 52) (b := fr b) (by omega) 1
    rw [show 2 ^ 52 * 1 = 4503599627370496 from rfl] at this
    exact this.symm
  rw [h, Nat.or_comm, h2]
/-- what a reading is made of -/
abbrev rdCells (b : Nat) : Array Value := #[.bool (decide (9223372036854775808 ≤ b)), .int .u64 (mant b : Nat), .int .i64 ((plc b : Int) - 1074), .float .f64 b]
theorem ret_cells {a b : Array Value} (h : a = b) : Ending.returned (.agg a) = .returned (.agg b) := by rw [h]
theorem reading_size : (Try.prog.info? 71).map (·.size) = some 4 := by kernel_rfl
set_option maxHeartbeats 1000000 in
theorem read_c (b : Nat) (w : World) (hb : b < 18446744073709551616) :
    Calls Try.prog 34 #[.float .f64 b] w fun e w' => e = .returned (.agg (rdCells b)) ∧ Below w.heap.size w w' := by
  have hfb := float64bits b
  have h1 := and_ex hb
  have h2 := and_fr hb
  have h3 := or_fr b
  have hs : ((b : Int) / 9223372036854775808 == 1) = decide (9223372036854775808 ≤ b) := by rw [Bool.eq_iff_iff, beq_iff_eq, decide_eq_true_iff]; omega
  have hx := ex_lt b
  have hm : mant b = if ex b = 0 then fr b else 4503599627370496 + fr b := rfl
  have hp : plc b = ex b - 1 := rfl
  have hfr := fr_lt b
  have HM := Lib.hid hm
  have HP := Lib.hid hp
  clear hm hp
  by_cases h0 : ex b = 0
  · have t : ((ex b : Int) == 0) = true := by simp [h0]
    have H0 := Lib.hid h0
    clear h0
    go_enter Try.func34, Try.ntmps34
    go_wp2
    exact bodyPost_ret (results_cell_row rfl _ _ w.heap.size 71 _ (0, 0) _ rfl ((Blk.new w _ _).alloc _) Try.underlying71 rfl reading_size) rfl ⟨ret_cells (by unfold rdCells; rw [HM.out, HP.out, H0.out]; rfl), ((Below.refl _ _).alloc (Nat.le_refl _) _).alloc (by simp) _⟩
  · have t : ((ex b : Int) == 0) = false := by simp; omega
    have H0 := Lib.hid h0
    clear h0
    go_enter Try.func34, Try.ntmps34
    go_wp2
    exact bodyPost_ret (results_cell_row rfl _ _ w.heap.size 71 _ (0, 0) _ rfl ((Blk.new w _ _).alloc _) Try.underlying71 rfl reading_size) rfl ⟨ret_cells (by have h4 := H0.out; unfold rdCells; rw [HM.out, HP.out, if_neg H0.out, show ((ex b - 1 : Nat) : Int) - 1074 = (ex b : Int) - 1075 by omega, Int.natCast_add]; rfl), ((Below.refl _ _).alloc (Nat.le_refl _) _).alloc (by simp) _⟩
end Go.Proofs.Ythkncbfaehgenaa
