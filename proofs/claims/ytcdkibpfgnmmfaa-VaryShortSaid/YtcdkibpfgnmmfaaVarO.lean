/- Contracts of the laws of vary: kept. -/
import Derived.Test.YtcdkibpfgnmmfaaVarN
namespace Go.Proofs.Ytcdkibpfgnmmfaa
open Go.RowKit Go.Shelf VB
set_option linter.unusedVariables false
set_option maxHeartbeats 400000 in
theorem kept_c {e' : TypeId} (C A : Option Addr) (n f k m c base : Nat) (hs bs : List Nat) (w : World) (ho : w.ownsRow base 5 1 (.slice C (n + 12) f) (n + 12) (bsV (hs ++ List.replicate 12 238))) (hl : hs.length = n)
    (hb : Reads w e' 1 A k (bsV bs)) (hc : k ≤ c) (hcm : c ≤ maxLen) (hm : m = min k 400) (hhs : hs = bs.take m) :
    Calls Try.prog 21 #[.slice C n f, .slice A k c] w fun e w' => e = .returned (.bool true) ∧ ∃ q, w' = w.drewN q := by
  have hbl : bs.length = k := by have := hb.1; rw [bsV_len] at this; omega
  have hn4 : n ≤ 400 := by rw [← hl, hhs, List.length_take]; omega
  have hnf := own_cap ho
  have hr := Reads.of_own ho
  obtain ⟨ad, hC, hty, hcell⟩ := hr.2 (by omega)
  subst hC
  have hfm : f ≤ maxLen := by obtain ⟨A', c', h1, _, hf⟩ := own_form ho; injection h1 with _ _ h1; omega
  have hmk : ∀ j, j < 12 → w.cell? ((ad.add n).add j) = some (.int .u8 238) := by
    intro j hj
    rw [add_of_add]
    refine hcell _ _ ?_
    rw [bsV, List.getElem?_map, List.getElem?_append_right (by omega), hl, Nat.add_sub_cancel_left, List.getElem?_replicate, if_pos hj]
    rfl
  have HMK := Lib.hid hmk
  have hEQ := fun w2 (h : ∃ q, w2 = w.drewN q) => equal_bs (e1 := 5) (e2 := e') (some ad) A n m f c hs hs w2 (by
      obtain ⟨q, rfl⟩ := h
      have h := (hr.drewN q).take (k := n) (by omega)
      rw [Nat.mul_one] at h
      rw [bsV_app, show n = (bsV hs).length by rw [bsV_len, hl], List.take_left, bsV_len, hl] at h
      exact h) (by
      obtain ⟨q, rfl⟩ := h
      have h := (hb.drewN q).take (k := m) (by omega)
      rw [Nat.mul_one] at h
      rw [hhs, show bsV (bs.take m) = (bsV bs).take m by simp [bsV, List.map_take]]
      exact h) (by omega)
  have HE := Lib.hid hEQ
  have h12 : ((n + 12 : Nat) : Int) ≤ (f : Nat) := by omega
  have hmn : m ≤ 400 := by omega
  have hmc : m ≤ c := by omega
  have hdec : ((400 : Int) < (k : Int) ∧ m = 400) ∨ (¬ (400 : Int) < (k : Int) ∧ m = k) := by omega
  have hmin : ∀ w, (Builtin.min_ #[3, 3] 3 #[.int .i64 (k : Int), .int .i64 400]).run Try.prog w = .ok (.int .i64 (m : Nat)) w := by
    intro w
    rw [run_min_int2]
    rcases hdec with ⟨h, e⟩ | ⟨h, e⟩
    · rw [if_pos h, e]; rfl
    · rw [if_neg h, e]
  clear hbl hdec hmk hEQ ho hr hb hcell hty hm hhs hl
  go_enter Try.func21, Try.ntmps21
  go_wp2_with fail
  generalize ad.add n = xd at *
  go_loopw [21] (fun v wr => ∃ j : Nat, j ≤ 12 ∧ v = .int .i64 (j : Nat) ∧ wr = w) (fun v _ => 12 - (intOf v).toNat)
  case atStart => exact ⟨0, Nat.zero_le _, rfl, rfl⟩
  case round =>
    obtain ⟨j, hj, rfl, rfl⟩ := hrel
    by_cases hlt : j < 12
    · have cx := HMK.out j hlt
      go_wp2
      go_roundw
      case rel => exact ⟨j + 1, by omega, by go_num, by simp⟩
      case measure => simp [intOf]; omega
    · obtain rfl : j = 12 := by omega
      clear hlt
      go_wp2_with fail
      refine (HE.out _ ⟨0, rfl⟩).mono ?_
      clear HE
      rintro e w' ⟨rfl, hq⟩
      go_wp2
      go_ret
      exact ⟨rfl, hq⟩
end Go.Proofs.Ytcdkibpfgnmmfaa
