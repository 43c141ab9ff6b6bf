/- Walks of the laws GaugeFixed, GaugeOrders. -/
import Derived.Test.YthkncbfaehgenaaGauO
import Derived.Test.YthkncbfaehgenaaLawC
namespace Go.Proofs.Ythkncbfaehgenaa
open Go.RowKit NB
set_option maxHeartbeats 1000000 in
theorem fixed_walk (a0 a1 : Int) (w0 : (Lit.int .u64 a0).wf = true) (w1 : (Lit.int .i64 a1).wf = true) (w : World) :
    Calls Try.prog 6 #[.int .u64 a0, .int .i64 a1] w fun e w' => e = .returned (.bool true) ∧ Below w.heap.size w w' := by
  have hv := u64_wf w0
  obtain ⟨b, rfl⟩ : ∃ b : Nat, a0 = (b : Int) := ⟨a0.toNat, by omega⟩
  have hb : b < 18446744073709551616 := by omega
  have b1 := frombits b
  have WA := Lib.hid wakes_c
  have FR := Lib.hid (fun w => refFixed_c b a1 w hb)
  have FG := Lib.hid (fun w => fixed_c b a1 w hb)
  have KG := Lib.hid (fun w => kind_c b w hb)
  have KR := Lib.hid (fun w => refKind_c b w hb)
  generalize fixedI b a1 = i at *
  generalize fixedE b a1 = e at *
  generalize kindV b = k at *
  go_enter Try.func6, Try.ntmps6
  go_wp2_with fail
  refine (WA.out _).mono ?_; rintro e w1 ⟨rfl, hw1⟩
  go_wp2_with fail
  refine (FR.out _).mono ?_; rintro e w2 ⟨rfl, hw2⟩
  go_wp2_with fail
  refine (FG.out _).mono ?_; rintro e w3 ⟨rfl, hw3⟩
  go_wp2_with fail
  refine (KG.out _).mono ?_; rintro e w4 ⟨rfl, hw4⟩
  go_wp2_with fail
  refine (KR.out _).mono ?_; rintro e w5 ⟨rfl, rfl⟩
  go_wp2
  go_ret
  exact ⟨rfl, below_two (below_two (below_two hw1 hw2) hw3) hw4⟩
set_option maxHeartbeats 1000000 in
theorem orders_walk (a0 a1 : Int) (w0 : (Lit.int .u64 a0).wf = true) (w1 : (Lit.int .u64 a1).wf = true) (w : World) :
    Calls Try.prog 8 #[.int .u64 a0, .int .u64 a1] w fun e w' => e = .returned (.bool true) ∧ Below w.heap.size w w' := by
  have hv := u64_wf w0
  have hv2 := u64_wf w1
  obtain ⟨a, rfl⟩ : ∃ b : Nat, a0 = (b : Int) := ⟨a0.toNat, by omega⟩
  obtain ⟨b, rfl⟩ : ∃ b : Nat, a1 = (b : Int) := ⟨a1.toNat, by omega⟩
  have ha : a < 18446744073709551616 := by omega
  have hb : b < 18446744073709551616 := by omega
  have b1 := frombits a
  have b2 := frombits b
  have WA := Lib.hid wakes_c
  have OR := Lib.hid (fun w => refOrder_c a b w ha hb)
  have OG := Lib.hid (fun w => order_any a b w ha hb)
  generalize ordI a b = i at *
  generalize ordB a b = e at *
  go_enter Try.func8, Try.ntmps8
  go_wp2_with fail
  refine (WA.out _).mono ?_; rintro e w1 ⟨rfl, hw1⟩
  go_wp2_with fail
  refine (OG.out _).mono ?_; rintro e w3 ⟨rfl, rfl⟩
  go_wp2_with fail
  refine (OR.out _).mono ?_; rintro e w2 ⟨rfl, hw2⟩
  go_wp2
  go_ret
  exact ⟨by simp, below_two hw1 hw2⟩
end Go.Proofs.Ythkncbfaehgenaa
