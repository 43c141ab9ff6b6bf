/- Contracts of vary: PutRow, GetRow. -/
import Derived.Test.YtgdnpmjmkcccoaaVarI
namespace Go.Proofs.Ytgdnpmjmkcccoaa
open Go.RowKit Go.Shelf VB
set_option linter.unusedVariables false
theorem gv_bound : ∀ (l : List Nat) (i n v p : Nat), gv i n l = (v, p, 0) → i < p ∧ p ≤ i + l.length
  | [], i, n, v, p, h => by rw [gv_nil] at h; cases h
  | x :: l, i, n, v, p, h => by
    unfold gv at h
    split at h
    · cases h
    · split at h
      · cases h
      · split at h
        · obtain ⟨_, rfl, _⟩ := trip h
          simp
        · have := gv_bound l (i + 1) _ v p h
          simp only [List.length_cons]
          omega
theorem gotN_ok {bs : List Nat} {z : Int} (h : (gotN bs z).2.2 = 0) : 0 ≤ z ∧ z < (gotN bs z).2.1 ∧ (gotN bs z).2.1 ≤ bs.length := by
  unfold gotN at h ⊢
  split at h
  · rename_i hz
    rw [if_pos hz]
    split at h
    · rename_i he
      rw [if_pos he]
      have := gv_bound (bs.drop z.toNat) 0 0 (gv 0 0 (bs.drop z.toNat)).1 (gv 0 0 (bs.drop z.toNat)).2.1 (by rw [← he])
      rw [List.length_drop] at this
      dsimp only
      omega
    · rename_i he
      exact absurd h he
  · exact absurd h (by decide)
/-- k numbers with a sign from place p on -/
def gl (bs : List Nat) : Nat → Nat → List Int × Nat × Int
  | 0, p => ([], p, 0)
  | k + 1, p => if (gotN bs p).2.2 = 0 then (if (gl bs k (gotN bs p).2.1).2.2 = 0 then (unf (gotN bs p).1 :: (gl bs k (gotN bs p).2.1).1, (gl bs k (gotN bs p).2.1).2.1, 0) else ([], 0, (gl bs k (gotN bs p).2.1).2.2)) else ([], 0, (gotN bs p).2.2)
/-- a row from place z on, of at most so many -/
def rowG (bs : List Nat) (z most : Int) : List Int × Nat × Int :=
  if 0 ≤ z ∧ z ≤ bs.length ∧ 0 ≤ most then (if (gotN bs z).2.2 = 0 then (if most < ((gotN bs z).1 : Int) then ([], 0, 3) else gl bs (gotN bs z).1 (gotN bs z).2.1) else ([], 0, (gotN bs z).2.2)) else ([], 0, 2)
/-- what was got, and what comes behind it -/
def glue (o : List Int) (r : List Int × Nat × Int) : List Int × Nat × Int := if r.2.2 = 0 then (o ++ r.1, r.2.1, 0) else ([], 0, r.2.2)
theorem glue_nil {r : List Int × Nat × Int} (h : r.2.2 = 0 ∨ (r.1 = [] ∧ r.2.1 = 0)) : glue [] r = r := by
  unfold glue
  obtain ⟨a, b, c⟩ := r
  dsimp only at h ⊢
  by_cases hc : c = 0
  · rw [if_pos hc, hc]; rfl
  · rw [if_neg hc]
    rcases h with h | ⟨h1, h2⟩
    · exact absurd h hc
    · rw [h1, h2]
theorem gl_form (bs : List Nat) (k p : Nat) : (gl bs k p).2.2 = 0 ∨ ((gl bs k p).1 = [] ∧ (gl bs k p).2.1 = 0) := by
  cases k with
  | zero => exact .inl rfl
  | succ k =>
    unfold gl
    split
    · split
      · exact .inl rfl
      · exact .inr ⟨rfl, rfl⟩
    · exact .inr ⟨rfl, rfl⟩
theorem glue_end (o : List Int) (bs : List Nat) (p : Nat) : glue o (gl bs 0 p) = (o, p, 0) := by simp [glue, gl]
theorem glue_bad {o : List Int} {bs : List Nat} {k p : Nat} (h : (gotN bs p).2.2 ≠ 0) : glue o (gl bs (k + 1) p) = ([], 0, (gotN bs p).2.2) := by
  unfold glue gl
  rw [if_neg h]
  dsimp only
  rw [if_neg h]
theorem glue_step {o : List Int} {bs : List Nat} {k p : Nat} (h : (gotN bs p).2.2 = 0) : glue o (gl bs (k + 1) p) = glue (o ++ [unf (gotN bs p).1]) (gl bs k (gotN bs p).2.1) := by
  have e : gl bs (k + 1) p = (if (gotN bs p).2.2 = 0 then (if (gl bs k (gotN bs p).2.1).2.2 = 0 then (unf (gotN bs p).1 :: (gl bs k (gotN bs p).2.1).1, (gl bs k (gotN bs p).2.1).2.1, 0) else ([], 0, (gl bs k (gotN bs p).2.1).2.2)) else ([], 0, (gotN bs p).2.2)) := rfl
  rw [e, if_pos h]
  unfold glue
  by_cases h2 : (gl bs k (gotN bs p).2.1).2.2 = 0
  · rw [if_pos h2, if_pos h2]
    dsimp only
    rw [if_pos rfl]
    simp
  · rw [if_neg h2, if_neg h2]
    dsimp only
    rw [if_neg h2]
/-- what a function hands back that hands back a row, a place and an error -/
def RetR3 (r : List Int × Nat × Int) (w : World) (e : Ending) (w' : World) : Prop := ∃ C f, e = .returned (.tuple #[.slice C r.1.length f, .int .i64 (r.2.1 : Nat), .int .i64 r.2.2]) ∧ r.1.length ≤ f ∧ Reads w' 2 1 C r.1.length (r.1.map (Value.int .i64)) ∧ Below w.heap.size w w'
theorem retR3_bad {e : Int} {w w' : World} {r : List Int × Nat × Int} (h : r = ([], 0, e)) (hb : Below w.heap.size w w') : RetR3 r w (.returned (.tuple #[.slice none 0 0, .int .i64 0, .int .i64 e])) w' := by
  subst h
  exact ⟨none, 0, rfl, Nat.le_refl _, Reads.none_, hb⟩
theorem retR3_ok {o : List Int} {p f : Nat} {C : Option Addr} {w w' : World} {r : List Int × Nat × Int} (h : r = (o, p, 0)) (hown : w'.ownsRow w.heap.size 2 1 (.slice C o.length f) o.length (o.map (Value.int .i64))) (hb : Below w.heap.size w w') : RetR3 r w (.returned (.tuple #[.slice C o.length f, .int .i64 (p : Nat), .int .i64 0])) w' := by
  subst h
  exact ⟨C, f, rfl, own_cap hown, Reads.of_own hown, hb⟩
def rowMu (many : Nat) (u11 u12 : Value) : Nat := match u12 with
  | .slice _ n _ => if intOf u11 = 0 then many - n + 1 else 0
  | _ => 0
theorem i64_info : (Try.prog.info? 2).map (fun i => (i.zero, i.size, i.bytes)) = some (some (.int .i64 0), 1, 8) := by kernel_rfl
theorem map_snoc (o : List Int) (x : Int) : (o ++ [x]).map (Value.int .i64) = o.map (Value.int .i64) ++ [.int .i64 x] := by simp
end Go.Proofs.Ytgdnpmjmkcccoaa
