/- Contract of vary: gets, with a sign. -/
import Derived.Test.YtgdnpmjmkcccoaaVarF
namespace Go.Proofs.Ytgdnpmjmkcccoaa
open Go.RowKit Go.Shelf VB
set_option linter.unusedVariables false

set_option maxHeartbeats 1000000 in
theorem gets_i_out (A : Option Addr) (n c : Nat) (z : Int) (w : World) (hz : ¬(0 ≤ z ∧ z ≤ n)) :
    Calls Try.prog 136 #[.slice A n c, .int .i64 z, .func (.func 137) #[] #[]] w fun d w' => d = .returned (.tuple #[.int .i64 0, .int .i64 0, .int .i64 2]) ∧ w = w' := by
  by_cases h : z < 0
  · clear hz
    go_enter Try.func136, Try.ntmps136
    go_wp2
    go_step3
    go_wp2
    try rw [Exit.noGoto_ret]
    go_ret3
    exact ⟨rfl, rfl⟩
  · have h2 : (n : Int) < z := by omega
    clear hz
    go_enter Try.func136, Try.ntmps136
    go_wp2
    go_step3
    go_wp2
    try rw [Exit.noGoto_ret]
    go_ret3
    exact ⟨rfl, rfl⟩
set_option maxRecDepth 100000 in
set_option maxHeartbeats 2000000 in
theorem gets_i_in (A : Option Addr) (n c at0 : Nat) (bs : List Nat) (w : World) (hb : Reads w 5 1 A n (bsV bs)) (hn : n ≤ 1000000) (hc : n ≤ c) (hcm : c ≤ maxLen) (hat : at0 ≤ n) (hbs : ∀ x ∈ bs, x < 256) (v p : Nat) (e : Int) (hv : gv 0 0 (bs.drop at0) = (v, p, e)) :
    Calls Try.prog 136 #[.slice A n c, .int .i64 (at0 : Nat), .func (.func 137) #[] #[]] w (RetG3 .i64 (unf v) (at0 + p) e w) := by
  have HB := Lib.hid hb
  have HV := Lib.hid hv
  simp only [maxLen] at hcm
  have hat2 : (at0 : Int) ≤ n := by omega
  clear hb hv
  have hl : bs.length = n := by have := HB.out.1; rw [bsV_len] at this; omega
  obtain ⟨N, rfl⟩ : ∃ N, n = at0 + N := ⟨n - at0, by omega⟩
  have HL := Lib.hid hl
  have HBS := Lib.hid hbs
  clear hl hbs
  by_cases h0 : 0 < N
  · obtain ⟨ad, rfl, _⟩ := bsV_at HB.out (show at0 < at0 + N by omega)
    have hca : ¬ c = at0 := by omega
    go_enter Try.func136, Try.ntmps136
    go_wp2
    go_step3
    go_wp2
    go_step3
    go_wp2
    go_loop [10, 11, 12, 29] (fun u10 u11 u12 u29 => ∃ (k acc : Nat), k ≤ N ∧ k ≤ 9 ∧ u10 = .int .u64 (acc : Nat) ∧ u11 = .int .i64 6 ∧ u12 = .int .i64 ((at0 : Int) + k) ∧ u29 = .int .i64 k ∧ acc < 128 ^ k ∧ gv k acc (bs.drop (at0 + k)) = (v, p, e)) (fun _ _ _ u29 => N - (intOf u29).toNat)
    case atStart => exact ⟨0, 0, Nat.zero_le _, by decide, rfl, rfl, by simp, rfl, by simp, HV.out⟩
    case round =>
      obtain ⟨k, acc, hk, hk9, rfl, rfl, rfl, rfl, hacc, hgv⟩ := hrel
      have HG := Lib.hid hgv
      have HA := Lib.hid hacc
      clear hgv hacc
      by_cases hlt : k < N
      · obtain ⟨ad', e1, cx⟩ := bsV_at HB.out (show at0 + k < at0 + N by omega)
        cases e1
        rw [← add_of_add] at cx
        obtain ⟨x, hx⟩ : ∃ x, x = bs.getD (at0 + k) 0 := ⟨_, rfl⟩
        rw [← hx] at cx
        have hd : bs.drop (at0 + k) = x :: bs.drop (at0 + (k + 1)) := by
          rw [hx, List.getD_eq_getElem?_getD, List.getElem?_eq_getElem (by rw [HL.out]; omega)]
          exact List.drop_eq_getElem_cons (by rw [HL.out]; omega)
        have hx256 : x < 256 := by
          refine HBS.out x ?_
          rw [hx, List.getD_eq_getElem?_getD, List.getElem?_eq_getElem (by rw [HL.out]; omega)]
          exact List.getElem_mem _
        have HD := Lib.hid hd
        clear hx hd
        have ha8 := and8 x hx256
        have hg := HG.out
        rw [HD.out] at hg
        by_cases h9 : k = 9 ∧ 1 < x
        · obtain ⟨hk9e, h1⟩ := h9
          rw [hk9e, gv_form9 h1] at hg
          obtain ⟨rfl, rfl, rfl⟩ := trip hg
          have t9 : ((k : Int) == 9) = true := by rw [beq_iff_eq]; omega
          have h1' : decide ((1 : Int) < (x : Int)) = true := decide_eq_true (by omega)
          clear hg h1 hk9e
          go_wp2
          try rw [Exit.noGoto_ret]
          go_ret3
          exact ⟨rfl, rfl⟩
        · by_cases hz : x = 0 ∧ 0 < k
          · obtain ⟨rfl, h1⟩ := hz
            rw [gv_form0 h1] at hg
            obtain ⟨rfl, rfl, rfl⟩ := trip hg
            have h1' : (0 : Int) < (k : Int) := by omega
            clear hg h9
            go_wp2
            all_goals
              try rw [Exit.noGoto_ret]
              go_ret3
              exact ⟨rfl, rfl⟩
          · by_cases h128 : x < 128
            · have hgl := gv_last (n := acc) (l := bs.drop (at0 + (k + 1))) (show k = 9 → x ≤ 1 by omega) h128 (show x = 0 → k = 0 by omega)
              rw [hgl] at hg
              obtain ⟨h1, h2, rfl⟩ := trip hg
              have ho := or_step (y := x % 128) HA.out (Nat.mod_lt _ (by decide)) hk9 (by omega)
              have ev : acc + x % 128 * 128 ^ k = v := by rw [Nat.mod_eq_of_lt h128]; exact h1
              rw [ev, show ((x % 128 : Nat) : Int) = (x : Int) % 128 from rfl] at ho
              have hv : v < 18446744073709551616 := by
                rw [← ev]
                exact acc_lt HA.out hk9 (Nat.mod_lt _ (by decide)) (by omega)
              have HP := Lib.hid h2
              have HC := Lib.hid (unfolded_c v hv)
              have t128 : (x : Int) < 128 := by omega
              have hcs : (k = 9 ∧ x = 1) ∨ (k = 0 ∧ x = 0) ∨ (k ≠ 9 ∧ x ≠ 0) := by omega
              clear hg hgl h1 h2 h9 hz ev hv
              rcases hcs with ⟨hc1, hc2⟩ | ⟨hc1, hc2⟩ | ⟨hc1, hc2⟩
              · have t9 : ((k : Int) == 9) = true := by rw [beq_iff_eq]; omega
                have t1 : decide ((1 : Int) < (x : Int)) = false := decide_eq_false (by omega)
                have t0 : ((x : Int) == 0) = false := by rw [beq_eq_false_iff_ne]; omega
                clear hc1 hc2
                go_wp2_with fail
                refine (HC.out _).mono ?_; rintro e w' ⟨rfl, rfl⟩
                go_wp2
                try rw [Exit.noGoto_ret]
                go_ret3
                refine ⟨?_, rfl⟩
                rw [← HP.out]
                exact ret3 (by rw [if_pos rfl]) (by rw [if_pos rfl]; omega)
              · have t9 : ((k : Int) == 9) = false := by rw [beq_eq_false_iff_ne]; omega
                have t0 : ((x : Int) == 0) = true := by rw [beq_iff_eq]; omega
                have tk : decide (0 < k) = false := decide_eq_false (by omega)
                have tk2 : ¬ 0 < k := by omega
                clear hc1 hc2
                go_wp2_with fail
                refine (HC.out _).mono ?_; rintro e w' ⟨rfl, rfl⟩
                go_wp2
                try rw [Exit.noGoto_ret]
                go_ret3
                refine ⟨?_, rfl⟩
                rw [← HP.out]
                exact ret3 (by rw [if_pos rfl]) (by rw [if_pos rfl]; omega)
              · have t9 : ((k : Int) == 9) = false := by rw [beq_eq_false_iff_ne]; omega
                have t0 : ((x : Int) == 0) = false := by rw [beq_eq_false_iff_ne]; omega
                clear hc1 hc2
                go_wp2_with fail
                refine (HC.out _).mono ?_; rintro e w' ⟨rfl, rfl⟩
                go_wp2
                try rw [Exit.noGoto_ret]
                go_ret3
                refine ⟨?_, rfl⟩
                rw [← HP.out]
                exact ret3 (by rw [if_pos rfl]) (by rw [if_pos rfl]; omega)
            · have hk9' : k ≠ 9 := by omega
              have t9 : ((k : Int) == 9) = false := by rw [beq_eq_false_iff_ne]; omega
              have t128 : ¬ (x : Int) < 128 := by omega
              have ho := or_step (y := x % 128) HA.out (Nat.mod_lt _ (by decide)) hk9 (by omega)
              rw [show ((x % 128 : Nat) : Int) = (x : Int) % 128 from rfl] at ho
              rw [gv_more hk9' h128] at hg
              have HG2 := Lib.hid hg
              have HA2 := Lib.hid (acc_step (y := x % 128) HA.out (Nat.mod_lt _ (by decide)))
              clear h9 hz hg
              go_wp2
              exact ⟨⟨k + 1, acc + x % 128 * 128 ^ k, by omega, by omega, rfl, rfl, by rw [show ((k + 1 : Nat) : Int) = (k : Int) + 1 by omega, Int.add_assoc], by go_num, HA2.out, HG2.out⟩, by simp [intOf]; omega⟩
      · obtain rfl : k = N := by omega
        have hg := HG.out
        rw [List.drop_eq_nil_of_le (by rw [HL.out]; exact Nat.le_refl _), gv_nil] at hg
        obtain ⟨rfl, rfl, rfl⟩ := trip hg
        clear hg hlt
        go_wp2
        try rw [Exit.noGoto_ret]
        go_ret3
        exact ⟨rfl, rfl⟩
  · obtain rfl : N = 0 := by omega
    have hg := HV.out
    rw [List.drop_eq_nil_of_le (by rw [HL.out]; exact Nat.le_refl _), gv_nil] at hg
    obtain ⟨rfl, rfl, rfl⟩ := trip hg
    clear hg h0 HB
    by_cases hca : c = at0
    all_goals
      go_enter Try.func136, Try.ntmps136
      go_wp2
      go_step3
      go_wp2
      go_step3
      go_wp2
      refine wp_loop_rounds 1 ?_
      rw [rounds_succ]
      go_wp2
      try rw [Exit.noGoto_ret]
      go_ret3
      exact ⟨rfl, rfl⟩
end Go.Proofs.Ytgdnpmjmkcccoaa
