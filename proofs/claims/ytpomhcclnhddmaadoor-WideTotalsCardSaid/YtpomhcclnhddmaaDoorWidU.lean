/- A row of wide numbers that came in (WideTotals). -/
import Derived.Test.YtpomhcclnhddmaaDoorWLawI
namespace Go.Proofs.YtpomhcclnhddmaaDoor
open Go.RowKit
open Go.Lib (hid)
/-- a row of pairs of words, as it came in -/
def IsRowW (w : World) (A : Option Addr) (n c : Nat) : Prop :=
  (A = none ∧ n = 0 ∧ c = 0) ∨ ∃ a, A = some a ∧ n ≤ c ∧ c ≤ maxLen ∧ ∀ i, i < n → ∃ x y : Int, w.cell? (a.add (i * 2)) = some (.int .i64 x) ∧ w.cell? (a.add (i * 2 + 1)) = some (.int .u64 y) ∧ (Lit.int .i64 x).wf = true ∧ (Lit.int .u64 y).wf = true
theorem typed_of_cellW {w : World} {p : Addr} {v : Value} (h : w.cell? p = some v) : ∃ e, Typed w p.block e := by
  unfold World.cell? at h
  split at h
  · rename_i cs e fr he
    exact ⟨e, cs, fr, he⟩
  · cases h
theorem flat_getW (f : Nat → Int) : ∀ (n j : Nat) (u : Value), (((List.range n).map f).flatMap cellsW)[j]? = some u → (j / 2 < n ∧ ((j % 2 = 0 ∧ u = .int .i64 (hiW (f (j / 2)))) ∨ (j % 2 = 1 ∧ u = .int .u64 (loW (f (j / 2)))))) := by
  intro n j u h
  have hl : (((List.range n).map f).flatMap cellsW).length = n * 2 := by rw [cellsW_len]; simp
  have hj : j < n * 2 := by rw [← hl]; exact (List.getElem?_eq_some_iff.1 h).1
  have hj2 : j / 2 < n := by omega
  obtain ⟨c0, c1⟩ := cellsW_at ((List.range n).map f) (j / 2) (by simpa using hj2)
  have hg : ((List.range n).map f).getD (j / 2) 0 = f (j / 2) := by
    rw [List.getD_eq_getElem?_getD, List.getElem?_map, List.getElem?_range hj2]; rfl
  rw [hg] at c0 c1
  refine ⟨hj2, ?_⟩
  rcases Nat.mod_two_eq_zero_or_one j with e | e
  · rw [show j / 2 * 2 = j by omega, h] at c0
    injection c0 with c0
    exact .inl ⟨e, c0⟩
  · rw [show j / 2 * 2 + 1 = j by omega, h] at c1
    injection c1 with c1
    exact .inr ⟨e, c1⟩
theorem row_open {w : World} {A : Option Addr} {n c : Nat} (h : IsRowW w A n c) : ∃ (e' : TypeId) (Zs : List Int), Reads w e' 2 A n (Zs.flatMap cellsW) ∧ (∀ i, i < n → inW (Zs.getD i 0)) ∧ n ≤ c ∧ c ≤ maxLen := by
  rcases h with ⟨rfl, rfl, rfl⟩ | ⟨a, rfl, hn, hc, hall⟩
  · exact ⟨0, [], Reads.none_, fun i hi => by omega, Nat.le_refl _, Nat.zero_le _⟩
  · have h2 : ∀ i, ∃ X : Int, i < n → inW X ∧ w.cell? (a.add (i * 2)) = some (.int .i64 (hiW X)) ∧ w.cell? (a.add (i * 2 + 1)) = some (.int .u64 (loW X)) := by
      intro i
      by_cases hi : i < n
      · obtain ⟨x, y, c0, c1, hx, hy⟩ := hall i hi
        obtain ⟨X, hX, rfl, rfl⟩ := wide_in hx hy
        exact ⟨X, fun _ => ⟨hX, c0, c1⟩⟩
      · exact ⟨0, fun h => absurd h hi⟩
    obtain ⟨f, hf⟩ := Classical.axiomOfChoice h2
    rcases Nat.eq_zero_or_pos n with h0 | h0
    · subst h0
      exact ⟨0, [], ⟨rfl, fun h => absurd h (by omega)⟩, fun i hi => by omega, hn, hc⟩
    · obtain ⟨_, k0, _⟩ := hf 0 h0
      obtain ⟨e', he⟩ := typed_of_cellW k0
      rw [block_of_add] at he
      refine ⟨e', (List.range n).map f, ⟨by rw [cellsW_len]; simp, fun _ => ⟨a, rfl, he, ?_⟩⟩, ?_, hn, hc⟩
      · intro j u hu
        obtain ⟨hj, ⟨e, rfl⟩ | ⟨e, rfl⟩⟩ := flat_getW f n j u hu
        · have := (hf _ hj).2.1
          rwa [show j / 2 * 2 = j by omega] at this
        · have := (hf _ hj).2.2
          rwa [show j / 2 * 2 + 1 = j by omega] at this
      · intro i hi
        rw [List.getD_eq_getElem?_getD, List.getElem?_map, List.getElem?_range hi]
        exact (hf i hi).1
theorem wTotals_core2 (A : Option Addr) (n c : Nat) (w : World) (h : IsRowW w A n c) (htab : Tab w) :
    Calls Tryd.prog 9 #[.slice A n c] w fun e w' => e = .returned (.bool true) ∧ Below w.heap.size w w' := by
  obtain ⟨e', Zs, hz, hX, hn, hc⟩ := row_open h
  exact wTotals_core A n c Zs w hz hX hn hc htab
end Go.Proofs.YtpomhcclnhddmaaDoor
