/- Contracts of the document's Bytes, Sign, Signed. -/
import Derived.Test.YtgdnpmjmkcccoaaVarM
namespace Go.Proofs.Ytgdnpmjmkcccoaa
open Go.RowKit Go.Shelf VB
set_option linter.unusedVariables false
theorem ret_i'' {k : IntKind} {a b : Int} (h : a = b) : Ending.returned (.int k a) = .returned (.int k b) := by rw [h]
set_option maxHeartbeats 1000000 in
theorem bytes_ref (m : Nat) : ∀ (hm : m < 18446744073709551616) (w : World), Calls Try.prog 84 #[.int .u64 (m : Nat)] w (RetB (vb m) w) := by
  induction m using Nat.strongRecOn with
  | _ m ih =>
    intro hm w
    by_cases h : m < 128
    · have hd : decide ((m : Int) < 128) = true := decide_eq_true (by omega)
      obtain ⟨l, hl⟩ : ∃ l, l = vb m := ⟨_, rfl⟩
      have e1 : l = [m] := by rw [hl, vb_lt h]
      rw [← hl]
      have HE := Lib.hid e1
      clear hl e1 ih
      go_enter Try.func84, Try.ntmps84
      go_wp2
      go_ret
      rw [HE.out]
      exact ⟨some ⟨w.heap.size, 0, none⟩, 1, rfl, ⟨rfl, .inr ⟨w.heap.size, 1, #[.int .u8 (m : Nat)], rfl, Nat.le_refl _, heap_alloc_new w _, Nat.le_refl _, by simp only [maxLen]; omega, rfl, rfl⟩⟩, (Below.refl _ w).alloc (Nat.le_refl _) _⟩
    · have hd : decide ((m : Int) < 128) = false := decide_eq_false (by omega)
      have IH := Lib.hid (fun w => ih (m / 128) (by omega) (by omega) w)
      have h10 := vb_len10 (n := m / 128) (by omega)
      obtain ⟨l, hl⟩ : ∃ l, l = vb m := ⟨_, rfl⟩
      have e1 : l = (m % 128 + 128) :: vb (m / 128) := by rw [hl, vb_ge h]
      rw [← hl]
      have HE := Lib.hid e1
      clear hl e1 ih
      go_enter Try.func84, Try.ntmps84
      obtain ⟨i0, hi0, hz0, hz1, hz2⟩ := info_parts u8_info
      go_wp2_with fail
      refine (IH.out _).mono ?_
      rintro e w2 h
      obtain ⟨C, f, rfl, hf, hown, hr, hb⟩ := h.dig
      have hbw : Below w.heap.size w w2 := ((Below.refl _ w).alloc (Nat.le_refl _) _).trans (hb.mono (by simp))
      have ho1 : w2.ownsRow w.heap.size 5 1 (.slice (some ⟨w.heap.size, 0, none⟩) 1 1) 1 [.int .u8 ((m : Int) % 128 + 128)] := by
        refine own_below (w := w.alloc (.cells #[.int .u8 ((m : Int) % 128 + 128)] 5)) ?_ hb
        exact ⟨rfl, .inr ⟨w.heap.size, 1, #[.int .u8 ((m : Int) % 128 + 128)], rfl, Nat.le_refl _, heap_alloc_new w _, Nat.le_refl _, by simp only [maxLen]; omega, rfl, rfl⟩⟩
      have HR := Lib.hid hr
      have HO := Lib.hid ho1
      obtain ⟨q, hq⟩ : ∃ q, q = (vb (m / 128)).length := ⟨_, rfl⟩
      rw [← hq] at h10 HR ⊢
      have HQ := Lib.hid hq
      clear hr hown hb h ho1 hf hq
      go_wp2_with (at_builtin; refine wpList_append_any _ rfl (.tmp 12) (.tmp 15) 31 rfl w.heap.size 5 i0 (.int .u8 0) 1 1 Try.underlying31 hi0 hz0 hz1 hz2 rfl (by decide) _ 1 _ rfl HO.out C q f (bsV (vb (m / 128))) rfl HR.out (bsV_one _) (by simp only [maxLen]; omega) (by omega) hbw.size ?_; intro v' w' hown' hg' hnil)
      have hbf : Below w.heap.size w w' := hbw.grown hg' hbw.size (by intro k hk; cases hk; exact Nat.le_refl _)
      obtain ⟨A', c', rfl, _, _⟩ := own_form hown'
      have HOW := Lib.hid hown'
      clear hown' hg' hnil
      go_wp2
      go_ret
      rw [HE.out]
      refine ⟨A', c', ?_, ?_, hbf⟩
      · rw [List.length_cons, ← HQ.out, Nat.add_comm]; rfl
      · have h2 := HOW.out
        rw [List.length_cons, ← HQ.out, Nat.add_comm]
        exact h2
theorem sign_c (n : Int) (h : -9223372036854775808 ≤ n) (h2 : n ≤ 9223372036854775807) (w : World) : Calls Try.prog 85 #[.int .i64 n] w fun e w' => e = .returned (.int .u64 (fold64 n : Nat)) ∧ w = w' := by
  have hu : fold64 n = if 0 ≤ n then (2 * n).toNat else (-(2 * n) - 1).toNat := rfl
  by_cases hn : 0 ≤ n
  · rw [if_pos hn] at hu
    have e1 : ((fold64 n : Nat) : Int) = 2 * n := by omega
    have HU := Lib.hid e1
    clear hu e1
    go_enter Try.func85, Try.ntmps85
    go_wp2
    go_ret
    exact ⟨ret_i'' (by rw [HU.out] <;> go_num), rfl⟩
  · rw [if_neg hn] at hu
    have e1 : ((fold64 n : Nat) : Int) = -(2 * n) - 1 := by omega
    have HU := Lib.hid e1
    clear hu e1
    go_enter Try.func85, Try.ntmps85
    go_wp2
    go_ret
    exact ⟨ret_i'' (by rw [HU.out] <;> go_num), rfl⟩
set_option maxHeartbeats 400000 in
theorem signed_c (n : Int) (h : -9223372036854775808 ≤ n) (h2 : n ≤ 9223372036854775807) (w : World) : Calls Try.prog 49 #[.int .i64 n] w (RetB (vb (fold64 n)) w) := by
  have HS := Lib.hid (fun w => sign_c n h h2 w)
  have HB := Lib.hid (fun w => bytes_ref (fold64 n) (fold64_lt h h2) w)
  obtain ⟨m, hm⟩ : ∃ m, m = fold64 n := ⟨_, rfl⟩
  rw [← hm] at HS HB ⊢
  obtain ⟨l, hl⟩ : ∃ l, l = vb m := ⟨_, rfl⟩
  rw [← hl] at HB ⊢
  clear hm hl
  go_enter Try.func49, Try.ntmps49
  go_wp2_with fail
  refine (HS.out _).mono ?_; rintro e w' ⟨rfl, rfl⟩
  go_wp2_with fail
  refine (HB.out _).mono ?_
  rintro e w' ⟨C, f, rfl, hown, hb⟩
  have HO := Lib.hid hown
  clear hown
  go_wp2
  go_ret
  exact ⟨C, f, rfl, HO.out, hb⟩
end Go.Proofs.Ytgdnpmjmkcccoaa
