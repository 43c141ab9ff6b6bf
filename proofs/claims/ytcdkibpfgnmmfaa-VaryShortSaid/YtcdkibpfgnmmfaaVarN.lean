/- Contracts of the laws of vary: head, kept. -/
import Derived.Test.YtcdkibpfgnmmfaaVarM
namespace Go.Proofs.Ytcdkibpfgnmmfaa
open Go.RowKit Go.Shelf VB
set_option linter.unusedVariables false
/-- what head hands back: bytes, and twelve marked ones behind them, in memory of its own -/
def Head (hs : List Nat) (w0 : World) (C : Option Addr) (n f : Nat) (w : World) : Prop := hs.length = n ∧ w.ownsRow w0.heap.size 5 1 (.slice C (n + 12) f) (n + 12) (bsV (hs ++ List.replicate 12 238))
theorem rep_snoc (hs : List Nat) (k : Nat) : bsV (hs ++ List.replicate (k + 1) 238) = bsV (hs ++ List.replicate k 238) ++ [.int .u8 238] := by
  rw [List.replicate_succ', ← List.append_assoc, bsV_app]; rfl
set_option maxHeartbeats 400000 in
theorem head_in {e' : TypeId} (A : Option Addr) (n m c : Nat) (bs : List Nat) (w : World) (hb : Reads w e' 1 A n (bsV bs)) (hc : n ≤ c) (hcm : c ≤ maxLen) (hm : m = min n 400) :
    Calls Try.prog 16 #[.slice A n c] w fun e w' => ∃ C f, e = .returned (.slice C m f) ∧ Head (bs.take m) w C m f w' ∧ Below w.heap.size w w' := by
  have hl : bs.length = n := by have := hb.1; rw [bsV_len] at this; omega
  have hcl : Calls Try.prog 25 #[.slice A m c] w fun e w' => ∃ C f, e = .returned (.slice C m f) ∧ w'.ownsRow w.heap.size 5 1 (.slice C m f) m (bsV (bs.take m)) ∧ Below w.heap.size w w' := by
    refine clone_b (e' := e') A m c (bs.take m) w ?_ (by omega)
    have h := hb.take (k := m) (by omega)
    rw [Nat.mul_one] at h
    rw [show bsV (bs.take m) = (bsV bs).take m by simp [bsV, List.map_take]]
    exact h
  have HC := Lib.hid hcl
  have h2 : ((m : Nat) : Int) ≤ (c : Nat) := by omega
  have hml : (bs.take m).length = m := by rw [List.length_take]; omega
  have HL := Lib.hid hml
  obtain ⟨hs, hhs⟩ : ∃ hs, hs = bs.take m := ⟨_, rfl⟩
  rw [← hhs] at HC HL ⊢
  have hmn : m ≤ 400 := by omega
  have hmc : m ≤ c := by omega
  have hdec : ((400 : Int) < (n : Int) ∧ m = 400) ∨ (¬ (400 : Int) < (n : Int) ∧ m = n) := by omega
  clear hb hcl hl hml hhs hm
  have hmin : ∀ w, (Builtin.min_ #[3, 3] 3 #[.int .i64 (n : Int), .int .i64 400]).run Try.prog w = .ok (.int .i64 (m : Nat)) w := by
    intro w
    rw [run_min_int2]
    rcases hdec with ⟨h, e⟩ | ⟨h, e⟩
    · rw [if_pos h, e]; rfl
    · rw [if_neg h, e]
  clear hdec
  go_enter Try.func16, Try.ntmps16
  go_wp2_with fail
  refine HC.out.mono ?_
  clear HC
  rintro e w1 ⟨C0, f0, rfl, hown, hb1⟩
  have HOW := Lib.hid hown
  clear hown
  go_wp2
  go_loopw [3, 10] (fun u3 u10 wr => ∃ (k : Nat) (C : Option Addr) (f : Nat), k ≤ 12 ∧ u10 = .int .i64 k ∧ u3 = .slice C (m + k) f ∧ wr.ownsRow w.heap.size 5 1 (.slice C (m + k) f) (m + k) (bsV (hs ++ List.replicate k 238)) ∧ Below w.heap.size w wr)
    (fun _ u10 _ => 12 - (intOf u10).toNat)
  case atStart => exact ⟨0, C0, f0, by omega, rfl, rfl, by simpa using HOW.out, hb1⟩
  case round =>
    clear HOW hb1
    obtain ⟨k, C, f, hk, rfl, rfl, hown, hb⟩ := hrel
    have HOW := Lib.hid hown
    clear hown
    by_cases hlt : k < 12
    · go_wp2_with (at_builtin; refine wpList_pushG rfl (.tmp 12) (.tmp 13) 29 rfl w.heap.size 5 (.int .u8 0) 1 Try.underlying29 u8_info rfl C (m + k) f _ rfl HOW.out rfl rfl ?_ ?_ hb.size ?_; omega; omega; intro C' f' w' hown' hgr hb')
      exact ⟨⟨k + 1, C', f', by omega, by go_num, rfl, by rw [rep_snoc]; exact hown', hb.trans hb'⟩, by simp [intOf]; omega⟩
    · obtain rfl : k = 12 := by omega
      have hcf := own_cap HOW.out
      go_wp2
      go_ret
      exact ⟨C, f, rfl, ⟨HL.out, HOW.out⟩, hb⟩
end Go.Proofs.Ytcdkibpfgnmmfaa
