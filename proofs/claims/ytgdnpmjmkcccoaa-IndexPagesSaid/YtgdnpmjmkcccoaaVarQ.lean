/- Contract of the document's Get. -/
import Derived.Test.YtgdnpmjmkcccoaaVarP
import Derived.Test.YtgdnpmjmkcccoaaVarL
import Derived.Deep.DeepCutAuto
import Derived.Deep.CutBlock
namespace Go.Proofs.Ytgdnpmjmkcccoaa
open Go.RowKit Go.Shelf VB
set_option linter.unusedVariables false
def RetT (R : Nat × Nat × Int) (w : World) (e : Ending) (w' : World) : Prop := e = .returned (.tuple #[.int .u64 (R.1 : Nat), .int .i64 (R.2.1 : Nat), .int .i64 R.2.2]) ∧ w = w'
theorem step_lv {l : List Nat} {i j : Nat} (hi : i < l.length) (hj : j ≤ i) (h : lv (l.take (i + 1)) < 18446744073709551616) : lv ((l.take (i + 1)).drop j) = lv ((l.take (i + 1)).drop (j + 1)) * 128 + l.getD j 0 % 128 ∧ lv ((l.take (i + 1)).drop (j + 1)) * 128 + l.getD j 0 % 128 < 18446744073709551616 := by
  have h1 := lv_step (l := l.take (i + 1)) (i := j) (by rw [List.length_take]; omega)
  have h2 := lv_drop_le (l.take (i + 1)) j
  have h3 : (l.take (i + 1)).getD j 0 = l.getD j 0 := by
    rw [List.getD_eq_getElem?_getD, List.getD_eq_getElem?_getD, List.getElem?_take, if_pos (by omega)]
  rw [h3] at h1
  omega
set_option maxRecDepth 100000 in
set_option maxHeartbeats 2000000 in
theorem refGet_more (ad : Addr) (at0 N c : Nat) (bs l : List Nat) (w : World) (hN : at0 + N ≤ 1000000) (h0 : 0 < N) (hc : at0 + N ≤ c) (hcm : c ≤ maxLen) (hl : l.length = N) (hbs : ∀ i, l.getD i 0 < 256)
    (hcell : ∀ i, i < N → w.cell? ((ad.add at0).add i) = some (.int .u8 (l.getD i 0 : Nat))) :
    Calls Try.prog 91 #[.slice (some ad) (at0 + N) c, .int .i64 (at0 : Nat)] w (RetT (refT l) w) := by
  have HC := Lib.hid hcell
  simp only [maxLen] at hcm
  have hca : ¬ c = at0 := by omega
  obtain ⟨M, hM⟩ : ∃ M, M = rl 10 l := ⟨_, rfl⟩
  have HB := Lib.hid hbs
  have m1 : M ≤ 10 := by rw [hM]; exact rl_le 10 l
  have m2 : M ≤ N := by rw [hM, ← hl]; exact rl_le_len 10 l
  have m3 : ∀ i, i + 1 < M → 128 ≤ l.getD i 0 := by rw [hM]; exact rl_big 10 l
  have m4 : M = 10 ∨ M = N ∨ (0 < M ∧ l.getD (M - 1) 0 < 128) := by rw [hM, ← hl]; exact rl_end 10 l
  have HM3 := Lib.hid m3
  have HM4 := Lib.hid m4
  have hR : refT l = if M = 10 ∧ 1 < l.getD (M - 1) 0 then (0, 0, 7) else if M = 0 ∨ 128 ≤ l.getD (M - 1) 0 then (0, 0, 6) else if 1 < M ∧ l.getD (M - 1) 0 = 0 then (0, 0, 7) else (lv (l.take M), M, 0) := by rw [hM]; rfl
  have hsm : ¬ (M = 10 ∧ 1 < l.getD (M - 1) 0) → ¬ (M = 0 ∨ 128 ≤ l.getD (M - 1) 0) → lv (l.take M) < 18446744073709551616 := by rw [hM]; exact lv_small
  have HSM := Lib.hid hsm
  obtain ⟨R, hRR⟩ : ∃ R, R = refT l := ⟨_, rfl⟩
  rw [← hRR] at hR ⊢
  have HR := Lib.hid hR
  have HL := Lib.hid hl
  clear hcell hbs m3 m4 hsm hR hM hRR hl
  go_enter Try.func91, Try.ntmps91
  go_upto_block 0 with fail
  generalize ad.add at0 = xd at *
  go_cut [8] (fun u8 wx => u8 = .int .i64 (M : Nat) ∧ wx = w)
  case first =>
    clear HR HSM HB
    go_wp2_with fail
    go_loopw [8] (fun v wr => ∃ j : Nat, j ≤ M ∧ v = .int .i64 (j : Nat) ∧ wr = w) (fun v _ => M - (intOf v).toNat)
    case atStart => exact ⟨0, Nat.zero_le _, rfl, rfl⟩
    case round =>
      obtain ⟨j, hj, rfl, rfl⟩ := hrel
      by_cases hlt : j < M
      · have h10 : decide ((j : Int) < 10) = true := decide_eq_true (by omega)
        have h10n : decide (j < 10) = true := decide_eq_true (by omega)
        have hln : decide ((j : Int) < (N : Int)) = true := decide_eq_true (by omega)
        have hlnn : decide (j < N) = true := decide_eq_true (by omega)
        by_cases hj0 : j = 0
        · subst hj0
          go_wp2
          go_roundw
          case rel => exact ⟨1, by omega, by go_num, by simp⟩
          case measure => simp [intOf]; omega
        · obtain ⟨i, rfl⟩ : ∃ i, j = i + 1 := ⟨j - 1, by omega⟩
          have hz : (((i + 1 : Nat) : Int) == 0) = false := by simp; omega
          have cx := HC.out i (by omega)
          have hx := HM3.out i hlt
          generalize l.getD i 0 = x at *
          have hxx : decide ((128 : Int) ≤ (x : Int)) = true := decide_eq_true (by omega)
          go_wp2
          exact ⟨⟨i + 1 + 1, by omega, by go_num, by simp⟩, by simp [intOf]; omega⟩
      · obtain rfl : j = M := by omega
        clear hlt hj
        by_cases h10 : j = 10
        · subst h10
          go_wp2_with fail
          go_meet
          exact ⟨rfl, rfl⟩
        · have t10 : decide ((j : Int) < 10) = true := decide_eq_true (by omega)
          have t10n : decide (j < 10) = true := decide_eq_true (by omega)
          by_cases hln : j = N
          · have tl : decide ((j : Int) < (N : Int)) = false := decide_eq_false (by omega)
            have tln : decide (j < N) = false := decide_eq_false (by omega)
            go_wp2_with fail
            go_meet
            exact ⟨by rw [hln], rfl⟩
          · have tl : decide ((j : Int) < (N : Int)) = true := decide_eq_true (by omega)
            have tln : decide (j < N) = true := decide_eq_true (by omega)
            have h4 := HM4.out
            have hj0 : 0 < j := by omega
            obtain ⟨i, rfl⟩ : ∃ i, j = i + 1 := ⟨j - 1, by omega⟩
            have hx : l.getD i 0 < 128 := by rcases h4 with h | h | h; omega; omega; exact h.2
            clear h4
            have hz : (((i + 1 : Nat) : Int) == 0) = false := by simp; omega
            have cx := HC.out i (by omega)
            generalize l.getD i 0 = x at *
            have hxx : decide ((128 : Int) ≤ (x : Int)) = false := decide_eq_false (by omega)
            go_wp2_with fail
            go_meet
            exact ⟨rfl, rfl⟩
  case rest =>
    obtain ⟨rfl, rfl⟩ := hcut
    have h4 := HM4.out
    obtain ⟨i, rfl⟩ : ∃ i, M = i + 1 := ⟨M - 1, by omega⟩
    have hR := HR.out
    have hS := HSM.out
    rw [Nat.add_sub_cancel] at hR hS
    have cx := HC.out i (by omega)
    have hxb := HB.out i
    obtain ⟨x, hx⟩ : ∃ x, x = l.getD i 0 := ⟨_, rfl⟩
    rw [← hx] at hR hS cx hxb
    have hz : (((i + 1 : Nat) : Int) == 0) = false := by simp; omega
    have hz' : ((i : Int) + 1 == 0) = false := by simp; omega
    have HX := Lib.hid hx
    clear HR HSM HM3 HM4 h4 hx
    by_cases c1 : i + 1 = 10 ∧ 1 < x
    · rw [if_pos c1] at hR
      obtain ⟨c1, c1x⟩ := c1
      have hN9 : 9 < N := by omega
      have hN9' : (9 : Int) < (N : Int) := by omega
      have cx9 : wc.cell? ⟨xd.block, xd.off + 9, none⟩ = some (.int .u8 (x : Nat)) := by
        have h := cx
        rw [show i = 9 by omega] at h
        exact h
      have hz10 : (((i + 1 : Nat) : Int) == 10) = true := by simp; omega
      have hz10' : ((i : Int) + 1 == 10) = true := by simp; omega
      have hxx : decide ((1 : Int) < (x : Int)) = true := decide_eq_true (by omega)
      have HR := Lib.hid hR
      clear hR hS c1
      go_wp2_with fail
      go_ret3
      exact ⟨by rw [HR.out]; rfl, rfl⟩
    · rw [if_neg c1] at hR
      by_cases c2 : 128 ≤ x
      · rw [if_pos (.inr c2)] at hR
        have HR := Lib.hid hR
        have hz10 : (((i + 1 : Nat) : Int) == 10) = false := by simp; omega
        have hz10' : ((i : Int) + 1 == 10) = false := by simp; omega
        have hxx : decide ((128 : Int) ≤ (x : Int)) = true := decide_eq_true (by omega)
        clear hR hS
        go_wp2_with fail
        go_ret3
        exact ⟨by rw [HR.out]; rfl, rfl⟩
      · rw [if_neg (by omega)] at hR
        have h128 : decide ((128 : Int) ≤ (x : Int)) = false := decide_eq_false (by omega)
        by_cases c3 : 1 < i + 1 ∧ x = 0
        · rw [if_pos c3] at hR
          obtain ⟨c3, rfl⟩ := c3
          have HR := Lib.hid hR
          have h1i : decide ((1 : Int) < ((i + 1 : Nat) : Int)) = true := decide_eq_true (by omega)
          have h1i' : decide ((1 : Int) < (i : Int) + 1) = true := decide_eq_true (by omega)
          clear hR hS c1 c2
          by_cases h9 : i = 9
          · have hN9 : 9 < N := by omega
            have hN9' : (9 : Int) < (N : Int) := by omega
            have cx9 : wc.cell? ⟨xd.block, xd.off + 9, none⟩ = some (.int .u8 (0 : Nat)) := by
              have h := cx
              rw [show i = 9 by omega] at h
              exact h
            have hz10 : (((i + 1 : Nat) : Int) == 10) = true := by simp; omega
            have hz10' : ((i : Int) + 1 == 10) = true := by simp; omega
            clear h9
            go_wp2_with fail
            go_ret3
            exact ⟨by rw [HR.out]; rfl, rfl⟩
          · have hz10 : (((i + 1 : Nat) : Int) == 10) = false := by simp; omega
            have hz10' : ((i : Int) + 1 == 10) = false := by simp; omega
            go_wp2_with fail
            go_ret3
            exact ⟨by rw [HR.out]; rfl, rfl⟩
        · rw [if_neg c3] at hR
          have HR := Lib.hid hR
          have HS := Lib.hid (hS c1 (by omega))
          clear hR hS
          by_cases h9 : i = 9
          · have hx1 : decide ((1 : Int) < (x : Int)) = false := decide_eq_false (by omega)
            have hx0 : ((x : Int) == 0) = false := by simp; omega
            have h1i : decide ((1 : Int) < ((i + 1 : Nat) : Int)) = true := decide_eq_true (by omega)
            have h1i' : decide ((1 : Int) < (i : Int) + 1) = true := decide_eq_true (by omega)
            have hN9 : 9 < N := by omega
            have hN9' : (9 : Int) < (N : Int) := by omega
            have cx9 : wc.cell? ⟨xd.block, xd.off + 9, none⟩ = some (.int .u8 (x : Nat)) := by
              have h := cx
              rw [show i = 9 by omega] at h
              exact h
            have hz10 : (((i + 1 : Nat) : Int) == 10) = true := by simp; omega
            have hz10' : ((i : Int) + 1 == 10) = true := by simp; omega
            clear c1 c2 c3 h9
            go_wp2_with fail
            go_loopw [9, 10] (fun v9 v10 wr => wr = wc ∧ ((∃ j : Nat, j ≤ i ∧ v10 = .int .i64 (j : Nat) ∧ v9 = .int .u64 (lv ((l.take (i + 1)).drop (j + 1)) : Nat)) ∨ (v10 = .int .i64 (-1) ∧ v9 = .int .u64 (lv (l.take (i + 1)) : Nat)))) (fun _ v10 _ => (intOf v10 + 1).toNat)
            case atStart => exact ⟨rfl, .inl ⟨i, Nat.le_refl _, rfl, by rw [show (l.take (i + 1)).drop (i + 1) = [] from List.drop_eq_nil_of_le (by rw [List.length_take]; omega)]; rfl⟩⟩
            case round =>
              obtain ⟨rfl, ⟨j, hj, rfl, rfl⟩ | ⟨rfl, rfl⟩⟩ := hrel
              · have h0 : decide ((0 : Int) ≤ (j : Int)) = true := decide_eq_true (by omega)
                have hstep := step_lv (l := l) (i := i) (j := j) (by rw [HL.out]; omega) hj HS.out
                have cy := HC.out j (by omega)
                obtain ⟨a, ha⟩ : ∃ a, a = lv ((l.take (i + 1)).drop (j + 1)) := ⟨_, rfl⟩
                obtain ⟨y, hy⟩ : ∃ y, y = l.getD j 0 := ⟨_, rfl⟩
                rw [← ha, ← hy] at hstep
                rw [← hy] at cy
                rw [← ha]
                obtain ⟨s1, s2⟩ := hstep
                have S1 := Lib.hid s1
                clear ha hy s1
                go_wp2
                cases j with
                | zero => exact ⟨⟨by simp, .inr ⟨rfl, by rw [show lv (l.take (i + 1)) = a * 128 + y % 128 from S1.out]; go_num⟩⟩, by simp [intOf]⟩
                | succ j => exact ⟨⟨by simp, .inl ⟨j, by omega, by go_num, by rw [S1.out]; go_num⟩⟩, by simp [intOf]; omega⟩
              · go_wp2_with fail
                go_ret3
                exact ⟨by rw [HR.out]; rfl, rfl⟩
          · have hz10 : (((i + 1 : Nat) : Int) == 10) = false := by simp; omega
            have hz10' : ((i : Int) + 1 == 10) = false := by simp; omega
            by_cases hi0 : i = 0
            · have h1i : decide ((1 : Int) < ((i + 1 : Nat) : Int)) = false := decide_eq_false (by omega)
              have h1i' : decide ((1 : Int) < (i : Int) + 1) = false := decide_eq_false (by omega)
              clear c1 c2 c3 h9 hi0
              go_wp2_with fail
              go_loopw [9, 10] (fun v9 v10 wr => wr = wc ∧ ((∃ j : Nat, j ≤ i ∧ v10 = .int .i64 (j : Nat) ∧ v9 = .int .u64 (lv ((l.take (i + 1)).drop (j + 1)) : Nat)) ∨ (v10 = .int .i64 (-1) ∧ v9 = .int .u64 (lv (l.take (i + 1)) : Nat)))) (fun _ v10 _ => (intOf v10 + 1).toNat)
              case atStart => exact ⟨rfl, .inl ⟨i, Nat.le_refl _, rfl, by rw [show (l.take (i + 1)).drop (i + 1) = [] from List.drop_eq_nil_of_le (by rw [List.length_take]; omega)]; rfl⟩⟩
              case round =>
                obtain ⟨rfl, ⟨j, hj, rfl, rfl⟩ | ⟨rfl, rfl⟩⟩ := hrel
                · have h0 : decide ((0 : Int) ≤ (j : Int)) = true := decide_eq_true (by omega)
                  have hstep := step_lv (l := l) (i := i) (j := j) (by rw [HL.out]; omega) hj HS.out
                  have cy := HC.out j (by omega)
                  obtain ⟨a, ha⟩ : ∃ a, a = lv ((l.take (i + 1)).drop (j + 1)) := ⟨_, rfl⟩
                  obtain ⟨y, hy⟩ : ∃ y, y = l.getD j 0 := ⟨_, rfl⟩
                  rw [← ha, ← hy] at hstep
                  rw [← hy] at cy
                  rw [← ha]
                  obtain ⟨s1, s2⟩ := hstep
                  have S1 := Lib.hid s1
                  clear ha hy s1
                  go_wp2
                  cases j with
                  | zero => exact ⟨⟨by simp, .inr ⟨rfl, by rw [show lv (l.take (i + 1)) = a * 128 + y % 128 from S1.out]; go_num⟩⟩, by simp [intOf]⟩
                  | succ j => exact ⟨⟨by simp, .inl ⟨j, by omega, by go_num, by rw [S1.out]; go_num⟩⟩, by simp [intOf]; omega⟩
                · go_wp2_with fail
                  go_ret3
                  exact ⟨by rw [HR.out]; rfl, rfl⟩
            · have h1i : decide ((1 : Int) < ((i + 1 : Nat) : Int)) = true := decide_eq_true (by omega)
              have h1i' : decide ((1 : Int) < (i : Int) + 1) = true := decide_eq_true (by omega)
              have hx0 : ((x : Int) == 0) = false := by simp; omega
              clear c1 c2 c3 h9 hi0
              go_wp2_with fail
              go_loopw [9, 10] (fun v9 v10 wr => wr = wc ∧ ((∃ j : Nat, j ≤ i ∧ v10 = .int .i64 (j : Nat) ∧ v9 = .int .u64 (lv ((l.take (i + 1)).drop (j + 1)) : Nat)) ∨ (v10 = .int .i64 (-1) ∧ v9 = .int .u64 (lv (l.take (i + 1)) : Nat)))) (fun _ v10 _ => (intOf v10 + 1).toNat)
              case atStart => exact ⟨rfl, .inl ⟨i, Nat.le_refl _, rfl, by rw [show (l.take (i + 1)).drop (i + 1) = [] from List.drop_eq_nil_of_le (by rw [List.length_take]; omega)]; rfl⟩⟩
              case round =>
                obtain ⟨rfl, ⟨j, hj, rfl, rfl⟩ | ⟨rfl, rfl⟩⟩ := hrel
                · have h0 : decide ((0 : Int) ≤ (j : Int)) = true := decide_eq_true (by omega)
                  have hstep := step_lv (l := l) (i := i) (j := j) (by rw [HL.out]; omega) hj HS.out
                  have cy := HC.out j (by omega)
                  obtain ⟨a, ha⟩ : ∃ a, a = lv ((l.take (i + 1)).drop (j + 1)) := ⟨_, rfl⟩
                  obtain ⟨y, hy⟩ : ∃ y, y = l.getD j 0 := ⟨_, rfl⟩
                  rw [← ha, ← hy] at hstep
                  rw [← hy] at cy
                  rw [← ha]
                  obtain ⟨s1, s2⟩ := hstep
                  have S1 := Lib.hid s1
                  clear ha hy s1
                  go_wp2
                  cases j with
                  | zero => exact ⟨⟨by simp, .inr ⟨rfl, by rw [show lv (l.take (i + 1)) = a * 128 + y % 128 from S1.out]; go_num⟩⟩, by simp [intOf]⟩
                  | succ j => exact ⟨⟨by simp, .inl ⟨j, by omega, by go_num, by rw [S1.out]; go_num⟩⟩, by simp [intOf]; omega⟩
                · go_wp2_with fail
                  go_ret3
                  exact ⟨by rw [HR.out]; rfl, rfl⟩
end Go.Proofs.Ytgdnpmjmkcccoaa
