/- The arguments of the Record laws opened: a mutation, a row of mutations, a row of points, as they came in. -/
import Derived.Test.YtedojdbihajnbaaRecI
import Derived.Test.YtedojdbihajnbaaRecH
import Derived.Deep.SlicePairs
import Derived.Lib.SmallJoins
import Derived.ChangeArms
import Derived.OpenShut
namespace Go.Proofs.Ytedojdbihajnbaa
open Go.RowKit Go.Shelf VB
open Go.Lib (hid)
set_option linter.unusedVariables false
set_option linter.unusedSimpArgs false
theorem typed_of_cellO {w : World} {p : Addr} {v : Value} (h : w.cell? p = some v) : ∃ e, Typed w p.block e := by
  unfold World.cell? at h
  split at h
  · rename_i cs e fr he
    exact ⟨e, cs, fr, he⟩
  · cases h
theorem flat_lenO {cells : Nat → List Value} {size : Nat} : ∀ n, (∀ i, i < n → (cells i).length = size) → ((List.range n).flatMap cells).length = n * size := by
  intro n
  induction n with
  | zero => intro _; simp
  | succ n ih =>
    intro hl
    rw [List.range_succ, List.flatMap_append, List.length_append, ih (fun i hi => hl i (by omega)), List.flatMap_singleton, hl n (by omega), Nat.succ_mul]
theorem flat_idx {cells : Nat → List Value} {size : Nat} (hs : 0 < size) : ∀ n, (∀ i, i < n → (cells i).length = size) → ∀ j u, ((List.range n).flatMap cells)[j]? = some u → j / size < n ∧ (cells (j / size))[j % size]? = some u := by
  intro n
  induction n with
  | zero => intro _ j u h; simp at h
  | succ n ih =>
    intro hl j u h
    have hL := flat_lenO (cells := cells) (size := size) n (fun i hi => hl i (by omega))
    rw [List.range_succ, List.flatMap_append, List.flatMap_singleton] at h
    by_cases hj : j < n * size
    · rw [List.getElem?_append_left (by omega)] at h
      have := ih (fun i hi => hl i (by omega)) j u h
      exact ⟨by omega, this.2⟩
    · rw [List.getElem?_append_right (by omega), hL] at h
      have hlt : j - n * size < size := by
        have := (List.getElem?_eq_some_iff.1 h).1
        rw [hl n (by omega)] at this
        exact this
      have hd : j / size = n := by
        rw [show j = (j - n * size) + n * size by omega, Nat.add_mul_div_right _ _ hs, Nat.div_eq_of_lt hlt]; omega
      have hm : j % size = j - n * size := by
        rw [show j = (j - n * size) + n * size by omega, Nat.add_mul_mod_self_right, Nat.mod_eq_of_lt (by omega)]
        omega
      rw [hd, hm]
      exact ⟨by omega, h⟩
theorem reads_of_fn {w : World} {ad : Addr} {n size : Nat} {cells : Nat → List Value} (hs : 0 < size) (hl : ∀ i, i < n → (cells i).length = size) (h : ∀ i, i < n → ∀ j u, (cells i)[j]? = some u → w.cell? (ad.add (i * size + j)) = some u) : ∃ e, Reads w e size (some ad) n ((List.range n).flatMap cells) := by
  rcases Nat.eq_zero_or_pos n with h0 | h0
  · subst h0
    exact ⟨0, by simp, fun h => absurd h (by omega)⟩
  · have hc0 : ∃ u, (cells 0)[0]? = some u := ⟨_, List.getElem?_eq_getElem (by rw [hl 0 h0]; exact hs)⟩
    obtain ⟨u0, hu0⟩ := hc0
    obtain ⟨e, he⟩ := typed_of_cellO (h 0 h0 0 u0 hu0)
    rw [block_of_add] at he
    refine ⟨e, flat_lenO n hl, fun _ => ⟨ad, rfl, he, ?_⟩⟩
    intro j u hu
    obtain ⟨hj, hx⟩ := flat_idx hs n hl j u hu
    have := h _ hj _ u hx
    rwa [Nat.div_add_mod' j size] at this
theorem map_range_len (f : Nat → Int × Int) (n : Nat) : ((List.range n).map f).length = n := by simp
theorem open_pts {H : Type} {enc : TypeId × Value → H} {w : World} {base : Nat} {held : Bool} {fuel : Nat} {v : Value} {x : DataW H × List MemPlace} (h : DataW.trod enc Try.prog w base (fun _ => true) held fuel 22 [v] = some x) :
    ∃ (A : Option Addr) (n c : Nat) (l : List (Int × Int)) (e1 : TypeId), v = .slice A n c ∧ l.length = n ∧ Reads w e1 2 A n (l.flatMap cellsP) ∧ n ≤ c ∧ c ≤ maxLen := by
  rcases Go.Deep.open_slice_pairs Try.underlying22 Try.underlying51 (by kernel_rfl) rfl rfl (by kernel_rfl) (by kernel_rfl) h with ⟨hcs, _⟩ | ⟨a, l, c, m, n, V0, V1, D0, D1, P0, P1, hcs, _, hl, hm, hmm, _, hall⟩
  · simp only [List.cons.injEq, and_true] at hcs
    exact ⟨none, 0, 0, [], 0, hcs, rfl, Reads.none_, Nat.le_refl _, Nat.zero_le _⟩
  · simp only [List.cons.injEq, and_true] at hcs
    rw [if_pos rfl] at hmm
    have h2 : ∀ i, ∃ X : Int × Int, i < l → w.cell? (a.add (i * 2)) = some (.int .i64 X.1) ∧ w.cell? (a.add (i * 2 + 1)) = some (.int .i64 X.2) := by
      intro i
      by_cases hi : i < l
      · obtain ⟨c0, c1, t0, t1⟩ := hall i (by omega)
        obtain ⟨y0, e0, _, _⟩ := DataW.trod_int Try.underlying2 t0
        obtain ⟨y1, e1, _, _⟩ := DataW.trod_int Try.underlying2 t1
        simp only [List.cons.injEq, and_true] at e0 e1
        rw [e0] at c0
        rw [e1] at c1
        exact ⟨(y0, y1), fun _ => ⟨c0, c1⟩⟩
      · exact ⟨(0, 0), fun h => absurd h hi⟩
    obtain ⟨f, hf⟩ := Classical.axiomOfChoice h2
    obtain ⟨e, he⟩ := reads_of_fn (w := w) (ad := a) (n := l) (size := 2) (cells := fun i => cellsP (f i)) (by omega) (fun i _ => rfl) (by
      intro i hi j u hu
      unfold cellsP at hu
      match j with
      | 0 => simp only [List.getElem?_cons_zero, Option.some.injEq] at hu; subst hu; exact (hf i hi).1
      | 1 => simp only [List.getElem?_cons_succ, List.getElem?_cons_zero, Option.some.injEq] at hu; subst hu; exact (hf i hi).2
      | j + 2 => simp at hu)
    refine ⟨some a, l, c, (List.range l).map f, e, hcs, map_range_len f l, ?_, hl, hm⟩
    rw [List.flatMap_map]
    exact he
theorem list6 {α : Type} {l : List α} (h : l.length = 6) : ∃ a b c d e f, l = [a, b, c, d, e, f] := by
  match l, h with
  | [a, b, c, d, e, f], _ => exact ⟨a, b, c, d, e, f, rfl⟩
set_option maxRecDepth 100000 in
/-- six cells of a struct, opened -/
theorem open_six {H : Type} {enc : TypeId × Value → H} {w : World} {base : Nat} {held : Bool} {fuel : Nat} {cs : List Value} {x : DataW H × List MemPlace} (h : DataW.trod enc Try.prog w base (fun _ => true) held fuel 24 cs = some x) :
    ∃ (m : Mu) (A : Option Addr) (c : Nat) (e1 : TypeId), cs = [.int .i64 m.kind, .string m.name, .int .i64 m.eps, .int .i64 m.floor, .int .i64 m.scale, .slice A m.pts.length c] ∧ Reads w e1 2 A m.pts.length (m.pts.flatMap cellsP) ∧ m.pts.length ≤ c ∧ c ≤ maxLen := by
  obtain ⟨xs, n, _, rfl, hl, hlen, hf⟩ := DataW.trod_struct Try.underlying24 h
  rw [show Try.prog.cellsOf 24 = 6 by kernel_rfl] at hl
  obtain ⟨v0, v1, v2, v3, v4, v5, rfl⟩ := list6 hl
  obtain ⟨y0, y1, y2, y3, y4, y5, rfl⟩ := list6 hlen
  have g0 : DataW.trod enc Try.prog w base (fun _ => true) held n 3 [v0] = some y0 := by
    have h : DataW.trod enc Try.prog w base (fun _ => true) held n 3 (([v0, v1, v2, v3, v4, v5].drop 0).take (Try.prog.cellsOf 3)) = _ := hf 0 _ rfl
    rw [show Try.prog.cellsOf 3 = 1 by kernel_rfl] at h
    exact h
  have g1 : DataW.trod enc Try.prog w base (fun _ => true) held n 9 [v1] = some y1 := by
    have h : DataW.trod enc Try.prog w base (fun _ => true) held n 9 (([v0, v1, v2, v3, v4, v5].drop 1).take (Try.prog.cellsOf 9)) = _ := hf 1 _ rfl
    rw [show Try.prog.cellsOf 9 = 1 by kernel_rfl] at h
    exact h
  have g2 : DataW.trod enc Try.prog w base (fun _ => true) held n 2 [v2] = some y2 := by
    have h : DataW.trod enc Try.prog w base (fun _ => true) held n 2 (([v0, v1, v2, v3, v4, v5].drop 2).take (Try.prog.cellsOf 2)) = _ := hf 2 _ rfl
    rw [show Try.prog.cellsOf 2 = 1 by kernel_rfl] at h
    exact h
  have g3 : DataW.trod enc Try.prog w base (fun _ => true) held n 2 [v3] = some y3 := by
    have h : DataW.trod enc Try.prog w base (fun _ => true) held n 2 (([v0, v1, v2, v3, v4, v5].drop 3).take (Try.prog.cellsOf 2)) = _ := hf 3 _ rfl
    rw [show Try.prog.cellsOf 2 = 1 by kernel_rfl] at h
    exact h
  have g4 : DataW.trod enc Try.prog w base (fun _ => true) held n 3 [v4] = some y4 := by
    have h : DataW.trod enc Try.prog w base (fun _ => true) held n 3 (([v0, v1, v2, v3, v4, v5].drop 4).take (Try.prog.cellsOf 3)) = _ := hf 4 _ rfl
    rw [show Try.prog.cellsOf 3 = 1 by kernel_rfl] at h
    exact h
  have g5 : DataW.trod enc Try.prog w base (fun _ => true) held n 22 [v5] = some y5 := by
    have h : DataW.trod enc Try.prog w base (fun _ => true) held n 22 (([v0, v1, v2, v3, v4, v5].drop 5).take (Try.prog.cellsOf 22)) = _ := hf 5 _ rfl
    rw [show Try.prog.cellsOf 22 = 1 by kernel_rfl] at h
    exact h
  obtain ⟨a0, e0, _, _⟩ := DataW.trod_int Try.underlying3 g0
  obtain ⟨a1, e1, _, _⟩ := DataW.trod_string Try.underlying9 g1
  obtain ⟨a2, e2, _, _⟩ := DataW.trod_int Try.underlying2 g2
  obtain ⟨a3, e3, _, _⟩ := DataW.trod_int Try.underlying2 g3
  obtain ⟨a4, e4, _, _⟩ := DataW.trod_int Try.underlying3 g4
  obtain ⟨A, k, c, l, e, rfl, rfl, hr, h1, h2⟩ := open_pts g5
  simp only [List.cons.injEq, and_true] at e0 e1 e2 e3 e4
  subst e0 e1 e2 e3 e4
  exact ⟨⟨a0, a1, a2, a3, a4, l⟩, A, c, e, rfl, hr, h1, h2⟩
/-- a mutation, as it came in -/
def MuIn (w : World) (m : Mu) (A : Option Addr) (c : Nat) : Prop := ∃ e1, Reads w e1 2 A m.pts.length (m.pts.flatMap cellsP) ∧ m.pts.length ≤ c ∧ c ≤ maxLen
/-- a row of mutations, as it came in -/
def MusIn (w : World) (A : Option Addr) (n c : Nat) (ms : List MuA) : Prop := ∃ e1, ms.length = n ∧ Reads w e1 6 A n (ms.flatMap cellsM) ∧ n ≤ c ∧ c ≤ maxLen ∧ ∀ q ∈ ms, MuIn w q.1 q.2.1 q.2.2
set_option maxRecDepth 100000 in
theorem open_mu {H : Type} {enc : TypeId × Value → H} {w : World} {r : Reach} {b0 base : Nat} {held : Bool} {v : Value} {d : DataW H} {p : List MemPlace} (hv : Value.okWide Try.prog w r b0 24 v) (h : DataW.Trod enc Try.prog w base (fun _ => true) held 24 v d p) :
    ∃ (m : Mu) (A : Option Addr) (c : Nat), v = vM m A c ∧ MuIn w m A c := by
  obtain ⟨cs, rfl, hsz⟩ := Go.WideShapes.okWide_struct Try.underlying24 hv
  obtain ⟨fuel, hf⟩ := h
  obtain ⟨m, A, c, e1, hcs, hr, h1, h2⟩ := open_six hf
  refine ⟨m, A, c, ?_, e1, hr, h1, h2⟩
  obtain ⟨l⟩ := cs
  simp only [Value.cells] at hcs
  subst hcs
  rfl
set_option maxRecDepth 100000 in
/-- the cells of a row of mutations, and the points of each -/
theorem open_mus {H : Type} {enc : TypeId × Value → H} {w : World} {base : Nat} {held : Bool} {fuel : Nat} {v : Value} {x : DataW H × List MemPlace} (h : DataW.trod enc Try.prog w base (fun _ => true) held fuel 38 [v] = some x) :
    ∃ (A : Option Addr) (n c : Nat) (ms : List MuA), v = .slice A n c ∧ MusIn w A n c ms := by
  rcases Go.Deep.open_slice Try.underlying38 h with ⟨hcs, _⟩ | ⟨a, l, c, m, n, D, Pl, hcs, _, hl, hm, hmm, _, hall⟩
  · simp only [List.cons.injEq, and_true] at hcs
    exact ⟨none, 0, 0, [], hcs, 0, rfl, Reads.none_, Nat.le_refl _, Nat.zero_le _, fun q hq => absurd hq (by simp)⟩
  · simp only [List.cons.injEq, and_true] at hcs
    rw [if_pos rfl] at hmm
    have h2 : ∀ i, ∃ X : MuA, i < l → (∀ j u, (cellsM X)[j]? = some u → w.cell? (a.add (i * 6 + j)) = some u) ∧ ∃ e, Reads w e 2 X.2.1 X.1.pts.length (X.1.pts.flatMap cellsP) ∧ X.1.pts.length ≤ X.2.2 ∧ X.2.2 ≤ maxLen := by
      intro i
      by_cases hi : i < l
      · obtain ⟨cs', h1, h2⟩ := hall i (by omega)
        obtain ⟨mu, A, c', e1, rfl, hr, hc1, hc2⟩ := open_six h2
        rw [show Try.prog.cellsOf 24 = 6 by kernel_rfl] at h1
        obtain ⟨_, hlen, hcell⟩ := World.cells?_some h1
        refine ⟨(mu, A, c'), fun _ => ⟨?_, e1, hr, hc1, hc2⟩⟩
        intro j u hu
        have hj : j < 6 := (List.getElem?_eq_some_iff.1 hu).1
        have := hcell j hj
        rw [add_of_add] at this
        rw [this]
        exact hu
      · exact ⟨(⟨0, ⟨#[]⟩, 0, 0, 0, []⟩, none, 0), fun h => absurd h hi⟩
    obtain ⟨f, hf⟩ := Classical.axiomOfChoice h2
    obtain ⟨e, he⟩ := reads_of_fn (w := w) (ad := a) (n := l) (size := 6) (cells := fun i => cellsM (f i)) (by omega) (fun i _ => rfl) (fun i hi j u hu => (hf i hi).1 j u hu)
    refine ⟨some a, l, c, (List.range l).map f, hcs, e, by simp, ?_, hl, hm, ?_⟩
    · rw [List.flatMap_map]
      exact he
    · intro q hq
      obtain ⟨i, hi, rfl⟩ := List.mem_map.1 hq
      exact (hf i (List.mem_range.1 hi)).2
end Go.Proofs.Ytedojdbihajnbaa
