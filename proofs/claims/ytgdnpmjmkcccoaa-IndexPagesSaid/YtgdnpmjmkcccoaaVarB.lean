/- Contracts of vary: a number's bytes as an iterator; size. -/
import Derived.Test.YtgdnpmjmkcccoaaProg
import Derived.Test.YtgdnpmjmkcccoaaRng
import Derived.Test.YtgdnpmjmkcccoaaVarA
import Derived.Laws.BitsAllLaws
import Derived.Laws.BitsLemmas
import Derived.Outline
import Derived.WalkMore
namespace Go.Proofs.Ytgdnpmjmkcccoaa
open Go.RowKit Go.Shelf VB
set_option linter.unusedVariables false
attribute [local go_sem] Oper.semAt_some
abbrev encB (x : Nat) : Array Value := #[.int .u8 (x : Nat)]
theorem and127 (m : Nat) (h : m < 18446744073709551616) : bits .and .u64 (m : Int) 127 = ((m % 128 : Nat) : Int) := by
  have h2 := u64_and_nat m 127 h (by decide)
  rw [show ((127 : Nat) : Int) = 127 from rfl] at h2
  rw [h2, show 127 = 2 ^ 7 - 1 from rfl, Nat.and_two_pow_sub_one_eq_mod]
theorem or128 : ∀ m : Nat, m < 128 → bits .or .u8 (m : Int) 128 = ((m + 128 : Nat) : Int) := by decide +kernel
def left (b0 : Nat) (w : World) : Nat := match w.cell? ⟨b0, 0, none⟩ with
  | some (.int _ z) => z.toNat
  | _ => 0
theorem left_eq {b0 : Nat} {w : World} {m : Nat} {t : TypeId} (h : Boxed w b0 t (.int .u64 (m : Nat))) : left b0 w = m := by
  unfold left
  rw [h.cell]
  rfl
set_option maxHeartbeats 1000000 in
theorem bytes_seq (n : Nat) (m b0 : Nat) (hm : m < 18446744073709551616) :
    SeqB Fence.wide n Try.prog 145 #[.pointer (some ⟨b0, 0, none⟩)] encB b0 147 (.int .u64 (m : Nat)) (vb m) := by
  intro l J W hW hJ hY h0
  refine callsIn_of_wp Try.func145 rfl trivial ?_ rfl
  simp only [Try.ntmps145, List.size_toArray, List.length_cons, List.length_nil, Nat.reduceAdd, Nat.reduceSub, Array.replicate_succ, Array.replicate_zero, List.push_toArray, List.append_toArray, List.nil_append, List.cons_append]
  gi_wp2
  refine wpIn_scope_straight ?_
  gi_wp2
  refine wpIn_label ?_
  gi_wp2
  gi_loopw [3] (fun _ wr => ∃ (pre : List Nat) (k : Nat), vb m = pre ++ vb k ∧ k < 18446744073709551616 ∧ Boxed wr b0 147 (.int .u64 (k : Nat)) ∧ J pre wr) (fun _ wr => left b0 wr)
  case atStart => exact ⟨[], m, rfl, hm, hW, h0⟩
  case round =>
    obtain ⟨pre, k, hx, hk, hb, hJs⟩ := hrel
    have hc := hb.cell
    have hf := hb.frozen
    have hL := left_eq hb
    have ha := and127 k hk
    have HX := Lib.hid hx
    have HL := Lib.hid hL
    have H0 := Lib.hid h0
    have HB := Lib.hid hb
    have HS := Lib.hid hJs
    have HJ := Lib.hid hJ
    have HY := Lib.hid hY
    have HW := Lib.hid hW
    clear hx hL h0 hb hJs hJ hY hW
    by_cases hlt : k < 128
    · have h128 : decide ((0 : Int) < (k : Int) / 128) = false := decide_eq_false (by omega)
      have e0 : (k : Int) / 128 = 0 := by omega
      have e1 : (k : Int) % 128 = k := by omega
      have hJ2 : J pre (wr.setCell ⟨b0, 0, none⟩ (.int .u64 0)) := HJ.out _ _ _ _ HS.out HB.out (grownBy_setCell' _ _ _)
      have hp : pre ++ [k] <+: vb m := by
        rw [HX.out, vb_lt hlt]
        exact ⟨[], by simp⟩
      have hb2 : Boxed (wr.setCell ⟨b0, 0, none⟩ (.int .u64 0)) b0 147 (.int .u64 0) := HB.out.set _
      obtain ⟨fn, tmps, assign, body, hy, hR⟩ := HY.out pre k _ _ hJ2 hb2 hp
      have HB2 := Lib.hid hb2
      have HR := Lib.hid hR
      clear hb2 hR hJ2 hp
      dsimp only [encB] at hy
      gi_wp2
      refine ⟨fun h => absurd h (by simp [Fence.wide]), HR.out.mono ?_⟩
      rintro e W3 ⟨rfl, hJ3, hk3⟩
      have hb3 : Boxed W3 b0 147 (.int .u64 0) := hk3.trans HB2.out
      have hc3 := hb3.cell
      clear hy hc hf hk3
      gi_wp2
      rw [Exit.noGoto_normal]
      go_end0
      refine ⟨⟨_, rfl⟩, ?_⟩
      rw [HX.out, vb_lt hlt]
      exact hJ3
    · have h128 : decide ((0 : Int) < (k : Int) / 128) = true := decide_eq_true (by omega)
      have ho : bits .or .u8 ((k : Int) % 128) 128 = (k : Int) % 128 + 128 := by
        have := or128 (k % 128) (by omega)
        rw [show ((k % 128 + 128 : Nat) : Int) = (k : Int) % 128 + 128 by omega] at this
        exact this
      have hb2 : Boxed (wr.setCell ⟨b0, 0, none⟩ (.int .u64 (k / 128 : Nat))) b0 147 (.int .u64 (k / 128 : Nat)) := HB.out.set _
      have hJ2 : J pre (wr.setCell ⟨b0, 0, none⟩ (.int .u64 (k / 128 : Nat))) := HJ.out _ _ _ _ HS.out HB.out (grownBy_setCell' _ _ _)
      have hp : pre ++ [k % 128 + 128] <+: vb m := by
        rw [HX.out, vb_ge hlt]
        exact ⟨vb (k / 128), by simp⟩
      obtain ⟨fn, tmps, assign, body, hy, hR⟩ := HY.out pre (k % 128 + 128) _ _ hJ2 hb2 hp
      dsimp only [encB] at hy
      rw [show ((k % 128 + 128 : Nat) : Int) = (k : Int) % 128 + 128 by omega, show ((k / 128 : Nat) : Int) = (k : Int) / 128 by omega] at hy
      rw [show ((k / 128 : Nat) : Int) = (k : Int) / 128 by omega] at hR
      have HB2 := Lib.hid hb2
      have HR := Lib.hid hR
      have hq : ((k : Int) / 128 == 0) = false := by rw [beq_eq_false_iff_ne]; omega
      have e2 := Lib.hid (show ((k / 128 : Nat) : Int) = (k : Int) / 128 by omega)
      clear hb2 hR hJ2 hp
      gi_wp2
      refine ⟨fun h => absurd h (by simp [Fence.wide]), HR.out.mono ?_⟩
      rintro e W3 ⟨rfl, hJ3, hk3⟩
      have hb3 : Boxed W3 b0 147 (.int .u64 (k / 128 : Nat)) := hk3.trans (by rw [← e2.out]; exact HB2.out)
      have hL3 := Lib.hid (left_eq hb3)
      have HB3 := Lib.hid hb3
      have hc3 := hb3.cell
      rw [e2.out] at hc3
      clear hy hc hf hk3 hb3
      gi_wp2
      go_roundw
      case rel => exact ⟨pre ++ [k % 128 + 128], k / 128, by rw [HX.out, vb_ge hlt]; simp, by omega, HB3.out, hJ3⟩
      case measure => rw [hL3.out, HL.out]; omega

set_option maxHeartbeats 400000 in
theorem bytes_c (z : Int) (w : World) :
    Calls Try.prog 135 #[.int .u64 z] w fun e w' => e = .returned (.func (.func 145) #[] #[.pointer (some ⟨w.heap.size, 0, none⟩)]) ∧ w' = w.alloc (.cells #[.int .u64 z] 147) := by
  go_enter Try.func135, Try.ntmps135
  go_wp2
  go_ret
  exact ⟨rfl, rfl⟩
theorem enters46 : ∀ args w, (callFunc 145 args).run Try.prog w = .ok (.enter 145 args) w := enters_of Try.func145 (by kernel_rfl) rfl
theorem one_zip {K : Act → World → Prop} {t : Array Value} {p : Tmp} {v : Value} {ds : List Deferred} {W : World} (h : K { tmps := t.setIfInBounds p v, defers := ds } W) : K { tmps := (#[p].zip #[v]).foldl (fun t (p, v) => t.setIfInBounds p v) t, defers := ds } W := by
  have e : (#[p].zip #[v]).foldl (fun t (p, v) => t.setIfInBounds p v) t = t.setIfInBounds p v := by simp
  rw [e]; exact h
theorem prefix_len {α : Type} {pre xs : List α} {x : α} (h : (pre ++ [x]) <+: xs) : pre.length + 1 ≤ xs.length := by
  have := h.length_le
  simpa using this

/-- the number that stands for one with a sign -/
def fold64 (n : Int) : Nat := if 0 ≤ n then (2 * n).toNat else (-(2 * n) - 1).toNat
theorem fold64_lt {n : Int} (h : -9223372036854775808 ≤ n) (h2 : n ≤ 9223372036854775807) : fold64 n < 18446744073709551616 := by
  unfold fold64; split <;> omega
set_option maxHeartbeats 400000 in
theorem plain_c (z : Int) (w : World) : Calls Try.prog 107 #[.int .u64 z] w fun e w' => e = .returned (.int .u64 z) ∧ w = w' := by
  go_enter Try.func107, Try.ntmps107
  go_wp2
  go_ret
  exact ⟨rfl, rfl⟩
theorem xor_ones {a : Nat} (h : a < 18446744073709551616) : a ^^^ 18446744073709551615 = 18446744073709551615 - a := by
  have h1 := Nat.xor_mod_two_pow (a := a) (b := 18446744073709551615) (n := 64)
  refine Nat.eq_of_testBit_eq fun i => ?_
  rw [Nat.testBit_xor, show 18446744073709551615 = 2 ^ 64 - 1 from rfl, Nat.testBit_two_pow_sub_one]
  have := Nat.testBit_two_pow_sub_succ (x := a) (n := 64) h i
  rw [show 2 ^ 64 - (a + 1) = 2 ^ 64 - 1 - a by omega] at this
  rw [this]
  by_cases hi : i < 64
  · simp [hi]
  · have : a.testBit i = false := Nat.testBit_lt_two_pow (Nat.lt_of_lt_of_le h (Nat.pow_le_pow_right (n := 2) (by decide) (by omega : 64 ≤ i)))
    simp [hi, this]
theorem fold_bits {n : Int} (h : -9223372036854775808 ≤ n) (h2 : n ≤ 9223372036854775807) : bits .xor .u64 (IntKind.u64.wrap (wrap64 (n * 2))) (IntKind.u64.wrap (n / 9223372036854775808)) = ((fold64 n : Nat) : Int) := by
  have e1 : IntKind.u64.wrap (wrap64 (n * 2)) = (((n * 2) % 18446744073709551616).toNat : Nat) := by
    rw [IntKind.wrap_u64]; unfold wrap64; omega
  rw [e1]
  by_cases h0 : 0 ≤ n
  · have e2 : IntKind.u64.wrap (n / 9223372036854775808) = ((0 : Nat) : Int) := by rw [IntKind.wrap_u64]; omega
    rw [e2, u64_xor_nat _ _ (by omega) (by decide), Nat.xor_zero]
    unfold fold64
    rw [if_pos h0]
    omega
  · have e2 : IntKind.u64.wrap (n / 9223372036854775808) = ((18446744073709551615 : Nat) : Int) := by rw [IntKind.wrap_u64]; omega
    rw [e2, u64_xor_nat _ _ (by omega) (by decide), xor_ones (by omega)]
    unfold fold64
    rw [if_neg h0]
    omega
set_option maxHeartbeats 1000000 in
theorem folded_c (n : Int) (h : -9223372036854775808 ≤ n) (h2 : n ≤ 9223372036854775807) (w : World) : Calls Try.prog 109 #[.int .i64 n] w fun e w' => e = .returned (.int .u64 (fold64 n : Nat)) ∧ w = w' := by
  have hb := Lib.hid (fold_bits h h2)
  go_enter Try.func109, Try.ntmps109
  go_wp2
  go_ret
  refine ⟨?_, rfl⟩
  rw [← hb.out]
  rfl
end Go.Proofs.Ytgdnpmjmkcccoaa
