/- Contracts of the document's Get, Unsign, Number. -/
import Derived.Test.YtgdnpmjmkcccoaaVarQ
namespace Go.Proofs.Ytgdnpmjmkcccoaa
open Go.RowKit Go.Shelf VB
set_option linter.unusedVariables false
set_option maxRecDepth 100000 in
set_option maxHeartbeats 1000000 in
theorem refGet_nil (A : Option Addr) (at0 c : Nat) (w : World) (hN : at0 ≤ 1000000) (hc : at0 ≤ c) (hcm : c ≤ maxLen) :
    Calls Try.prog 91 #[.slice A at0 c, .int .i64 (at0 : Nat)] w (RetT (0, 0, 6) w) := by
  simp only [maxLen] at hcm
  by_cases hca : c = at0
  all_goals
    go_enter Try.func91, Try.ntmps91
    go_wp2
    refine wp_loop_rounds 1 ?_
    rw [rounds_succ]
    go_wp2
    go_ret3
    exact ⟨rfl, rfl⟩
set_option maxRecDepth 100000 in
set_option maxHeartbeats 1000000 in
theorem refGet_out (A : Option Addr) (n c : Nat) (z : Int) (w : World) (hz : ¬(0 ≤ z ∧ z ≤ n)) :
    Calls Try.prog 91 #[.slice A n c, .int .i64 z] w (RetT (0, 0, 2) w) := by
  have hcs : z < 0 ∨ (¬ z < 0 ∧ (n : Int) < z) := by omega
  clear hz
  rcases hcs with h1 | ⟨h1, h2⟩
  all_goals
    go_enter Try.func91, Try.ntmps91
    go_wp2
    go_ret3
    exact ⟨rfl, rfl⟩
/-- what the document's Get answers -/
def rg (bs : List Nat) (z : Int) : Nat × Nat × Int := if 0 ≤ z ∧ z ≤ bs.length then gv 0 0 (bs.drop z.toNat) else (0, 0, 2)
theorem rg_got (bs : List Nat) (z : Int) : gotN bs z = if (rg bs z).2.2 = 0 then ((rg bs z).1, z.toNat + (rg bs z).2.1, 0) else (0, 0, (rg bs z).2.2) := by
  unfold gotN rg
  by_cases h : 0 ≤ z ∧ z ≤ bs.length
  · rw [if_pos h, if_pos h]
  · rw [if_neg h, if_neg h, if_neg (by decide)]
theorem rg_err {bs : List Nat} {z : Int} (h : (rg bs z).2.2 ≠ 0) : rg bs z = (0, 0, (rg bs z).2.2) := by
  unfold rg at h ⊢
  by_cases hz : 0 ≤ z ∧ z ≤ bs.length
  · rw [if_pos hz] at h ⊢
    rcases gv_err (bs.drop z.toNat) 0 0 with h1 | ⟨h1, h2⟩
    · exact absurd h1 h
    · generalize gv 0 0 (bs.drop z.toNat) = g at *
      obtain ⟨a, b, c⟩ := g
      dsimp only at h1 h2 ⊢
      rw [h1, h2]
  · rw [if_neg hz]
theorem rg_ok {bs : List Nat} {z : Int} (h : (rg bs z).2.2 = 0) : 0 ≤ z ∧ z ≤ bs.length ∧ z.toNat + (rg bs z).2.1 ≤ bs.length := by
  have h2 := rg_got bs z
  rw [if_pos h] at h2
  have h3 := gotN_ok (bs := bs) (z := z) (by rw [h2])
  rw [h2] at h3
  dsimp only at h3
  omega
theorem refGet_c (A : Option Addr) (n c : Nat) (z : Int) (bs : List Nat) (w : World) (hb : Reads w 5 1 A n (bsV bs)) (hn : n ≤ 1000000) (hc : n ≤ c) (hcm : c ≤ maxLen) (hbs : ∀ x ∈ bs, x < 256) :
    Calls Try.prog 91 #[.slice A n c, .int .i64 z] w (RetT (rg bs z) w) := by
  have hl : bs.length = n := by have := hb.1; rw [bsV_len] at this; omega
  by_cases hz : 0 ≤ z ∧ z ≤ n
  · obtain ⟨k, rfl⟩ := Int.eq_ofNat_of_zero_le hz.1
    have e : rg bs (k : Int) = refT (bs.drop k) := by unfold rg; rw [hl, if_pos hz, Int.toNat_natCast, gv_ref]
    rw [e]
    obtain ⟨N, rfl⟩ : ∃ N, n = k + N := ⟨n - k, by omega⟩
    by_cases h0 : 0 < N
    · obtain ⟨ad, rfl, _⟩ := bsV_at hb (show k < k + N by omega)
      refine refGet_more ad k N c bs (bs.drop k) w hn h0 hc hcm (by rw [List.length_drop, hl]; omega) ?_ ?_
      · intro i
        rw [List.getD_eq_getElem?_getD]
        by_cases hi : i < (bs.drop k).length
        · rw [List.getElem?_eq_getElem hi]
          exact hbs _ (List.mem_of_mem_drop (List.getElem_mem hi))
        · rw [List.getElem?_eq_none (by omega)]; decide
      · intro i hi
        obtain ⟨ad', e1, cx⟩ := bsV_at hb (show k + i < k + N by omega)
        cases e1
        rw [add_of_add, cx, List.getD_eq_getElem?_getD, List.getD_eq_getElem?_getD, List.getElem?_drop]
    · obtain rfl : N = 0 := by omega
      rw [List.drop_eq_nil_of_le (by omega), ← gv_ref, gv_nil]
      exact refGet_nil A k c w hn hc hcm
  · have e : rg bs z = (0, 0, 2) := by unfold rg; rw [hl, if_neg hz]
    rw [e]
    exact refGet_out A n c z w hz
set_option maxHeartbeats 400000 in
theorem unsign_c (v : Nat) (hv : v < 18446744073709551616) (w : World) : Calls Try.prog 138 #[.int .u64 (v : Nat)] w fun e w' => e = .returned (.int .i64 (unf v)) ∧ w = w' := by
  have hu : unf v = if v % 2 = 0 then ((v / 2 : Nat) : Int) else -((v / 2 : Nat) : Int) - 1 := rfl
  by_cases hm : v % 2 = 0
  · rw [if_pos hm] at hu
    have HU := Lib.hid hu
    have h2 : ((v : Int) % 2 == 0) = true := by rw [beq_iff_eq]; omega
    clear hu hm
    go_enter Try.func138, Try.ntmps138
    go_wp2
    go_ret
    exact ⟨ret_i' (by rw [HU.out]; go_num), rfl⟩
  · rw [if_neg hm] at hu
    have HU := Lib.hid hu
    have h2 : ((v : Int) % 2 == 0) = false := by rw [beq_eq_false_iff_ne]; omega
    clear hu hm
    go_enter Try.func138, Try.ntmps138
    go_wp2
    go_ret
    exact ⟨ret_i' (by rw [HU.out]; go_num), rfl⟩
end Go.Proofs.Ytgdnpmjmkcccoaa
