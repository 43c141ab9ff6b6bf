/- Contracts of the package wide: Scale; the walk of Div. -/
import Derived.Test.YtpomhcclnhddmaaDoorWidI
namespace Go.Proofs.YtpomhcclnhddmaaDoor
open Go.RowKit Go.Shelf
set_option linter.unusedVariables false
set_option maxHeartbeats 1000000 in
theorem scale_w (X n : Int) (hX : inW X) (h0 : -9223372036854775808 ≤ n) (h1 : n ≤ 9223372036854775807) (w : World) :
    Calls Tryd.prog 22 #[wV X, .int .i64 n] w fun e w' => e = .returned (tW (X * n)) ∧ Below w.heap.size w w' := by
  have hn : inW n := by omega
  have hN : X.natAbs ≤ 170141183460469231731687303715884105728 := by omega
  have hT : n.natAbs < 18446744073709551616 := by omega
  have hsz := fun w => size_c X hX w
  have hsn := fun w => size_c n hn w
  have hsc := @scale_nat X.natAbs n.natAbs
  have hsm := sign_mul X n
  have hng : decide (X / 18446744073709551616 < 0) = decide (X < 0) := decide_eq_decide.2 (hi_neg X)
  have hTm : n.natAbs % 18446744073709551616 = n.natAbs := Nat.mod_eq_of_lt hT
  rw [hTm] at hsn
  generalize X.natAbs = N at *
  generalize n.natAbs = T at *
  have hhi : N / 18446744073709551616 < 18446744073709551616 := by omega
  have hlo : N % 18446744073709551616 < 18446744073709551616 := by omega
  generalize N / 18446744073709551616 = hi at *
  generalize N % 18446744073709551616 = lo at *
  have hm1 := fun w => mul64_c lo T hlo hT w
  have hm2 := fun w => mul64_c hi T hhi hT w
  have hc1 := mul_nat hlo hT
  have hc2 := mul_nat hhi hT
  have hl1 : lo * T % 18446744073709551616 < 18446744073709551616 := Nat.mod_lt _ (by decide)
  have hl2 : hi * T % 18446744073709551616 < 18446744073709551616 := Nat.mod_lt _ (by decide)
  generalize lo * T / 18446744073709551616 = carry at *
  generalize lo * T % 18446744073709551616 = low at *
  generalize hi * T / 18446744073709551616 = over at *
  generalize hi * T % 18446744073709551616 = mid0 at *
  have ha := fun w => add64 mid0 carry 0 (by omega) (by omega) (by decide) (by decide) w
  simp only [Int.add_zero] at ha
  generalize hP : N * T = P at *
  obtain ⟨mid, hmid⟩ : ∃ m : Nat, m = (mid0 + carry) % 18446744073709551616 := ⟨_, rfl⟩
  obtain ⟨c, hc⟩ : ∃ m : Nat, m = (mid0 + carry) / 18446744073709551616 := ⟨_, rfl⟩
  rw [← hmid, ← hc] at hsc
  rw [show ((mid0 : Int) + (carry : Int)) % 18446744073709551616 = (mid : Nat) by omega, show ((mid0 : Int) + (carry : Int)) / 18446744073709551616 = (c : Nat) by omega] at ha
  have hmb : mid < 18446744073709551616 := by omega
  have hsg := fun w => signed_c (!(decide (X < 0) == decide (n < 0))) mid low (by omega) (by omega) (by omega) (by omega) w
  rw [show (decide (X < 0) != decide (n < 0)) = (!(decide (X < 0) == decide (n < 0))) from rfl] at hsm
  obtain ⟨V, hV⟩ : ∃ V : Int, V = if (!(decide (X < 0) == decide (n < 0))) = true then -((mid : Int) * 18446744073709551616 + (low : Int)) else (mid : Int) * 18446744073709551616 + (low : Int) := ⟨_, rfl⟩
  rw [← hV] at hsg
  have hyes : over = 0 → c = 0 → X * n = V := by
    intro e1 e2
    rw [hsm, hV]
    generalize (!(decide (X < 0) == decide (n < 0))) = sg
    cases sg <;> simp <;> omega
  have hno : ¬ (over = 0 ∧ c = 0) → ¬ inW (X * n) := by
    intro e
    rw [hsm]
    generalize (!(decide (X < 0) == decide (n < 0))) = sg
    cases sg <;> simp <;> omega
  have hto : ∀ w, Calls Tryd.prog 43 #[wv (wr V / 18446744073709551616) (wr V % 18446744073709551616), .bool (decide (inW V) && ((over : Int) == 0) && ((c : Int) == 0))] w fun e w' => e = .returned (tW (X * n)) ∧ Below w.heap.size w w' := by
    intro w
    by_cases hz : over = 0 ∧ c = 0
    · rw [hyes hz.1 hz.2, show ((over : Int) == 0) = true from beq_iff_eq.2 (by omega), show ((c : Int) == 0) = true from beq_iff_eq.2 (by omega), Bool.and_true, Bool.and_true]
      exact told_c V w
    · have hb : (decide (inW V) && ((over : Int) == 0) && ((c : Int) == 0)) = false := by
        rw [Bool.and_assoc, Bool.and_eq_false_iff]
        right
        rw [Bool.and_eq_false_iff, beq_eq_false_iff_ne, beq_eq_false_iff_ne]
        omega
      rw [hb]
      unfold tW
      rw [if_neg (hno hz), if_neg (hno hz)]
      exact told_no _ _ w
  clear hyes hno hV hsm hsc hmid hc hP
  exact scale_core (X / 18446744073709551616) (X % 18446744073709551616) n hi lo _ 0 T carry low over mid0 mid c _ _ _ _ _ _ _ _ _ _ w hng rfl hsz (fun w => of_w n h0 h1 w) hsn hm1 hm2 ha hsg hto
end Go.Proofs.YtpomhcclnhddmaaDoor
