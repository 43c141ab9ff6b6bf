/- The arguments of the Manifest laws opened (printed by gen_marg.py). Manifest laws: what Encode hands back; bytes; prefixes. -/
import Derived.Test.YtgdnpmjmkcccoaaZOwn
import Derived.Test.YtgdnpmjmkcccoaaPost
import Derived.Deep.SlicePairs
import Derived.Lib.SmallJoins
import Derived.ChangeArms
import Derived.OpenShut
namespace Go.Proofs.Ytgdnpmjmkcccoaa
open Go.RowKit Go.Shelf VB
open Go.Lib (hid)
set_option linter.unusedVariables false
set_option linter.unusedSimpArgs false
theorem typed_of_cellO {w : World} {p : Addr} {v : Value} (h : w.cell? p = some v) : ∃ e, Typed w p.block e := by
  unfold World.cell? at h
  split at h
  · rename_i cs e fr he
    exact ⟨e, cs, fr, he⟩
  · cases h
theorem flat_lenO {cells : Nat → List Value} {size : Nat} : ∀ n, (∀ i, i < n → (cells i).length = size) → ((List.range n).flatMap cells).length = n * size := by
  intro n
  induction n with
  | zero => intro _; simp
  | succ n ih =>
    intro hl
    rw [List.range_succ, List.flatMap_append, List.length_append, ih (fun i hi => hl i (by omega)), List.flatMap_singleton, hl n (by omega), Nat.succ_mul]
theorem flat_idx {cells : Nat → List Value} {size : Nat} (hs : 0 < size) : ∀ n, (∀ i, i < n → (cells i).length = size) → ∀ j u, ((List.range n).flatMap cells)[j]? = some u → j / size < n ∧ (cells (j / size))[j % size]? = some u := by
  intro n
  induction n with
  | zero => intro _ j u h; simp at h
  | succ n ih =>
    intro hl j u h
    have hL := flat_lenO (cells := cells) (size := size) n (fun i hi => hl i (by omega))
    rw [List.range_succ, List.flatMap_append, List.flatMap_singleton] at h
    by_cases hj : j < n * size
    · rw [List.getElem?_append_left (by omega)] at h
      have := ih (fun i hi => hl i (by omega)) j u h
      exact ⟨by omega, this.2⟩
    · rw [List.getElem?_append_right (by omega), hL] at h
      have hlt : j - n * size < size := by
        have := (List.getElem?_eq_some_iff.1 h).1
        rw [hl n (by omega)] at this
        exact this
      have hd : j / size = n := by
        rw [show j = (j - n * size) + n * size by omega, Nat.add_mul_div_right _ _ hs, Nat.div_eq_of_lt hlt]; omega
      have hm : j % size = j - n * size := by
        rw [show j = (j - n * size) + n * size by omega, Nat.add_mul_mod_self_right, Nat.mod_eq_of_lt (by omega)]
        omega
      rw [hd, hm]
      exact ⟨by omega, h⟩
theorem reads_of_fn {w : World} {ad : Addr} {n size : Nat} {cells : Nat → List Value} (hs : 0 < size) (hl : ∀ i, i < n → (cells i).length = size) (h : ∀ i, i < n → ∀ j u, (cells i)[j]? = some u → w.cell? (ad.add (i * size + j)) = some u) : ∃ e, Reads w e size (some ad) n ((List.range n).flatMap cells) := by
  rcases Nat.eq_zero_or_pos n with h0 | h0
  · subst h0
    exact ⟨0, by simp, fun h => absurd h (by omega)⟩
  · have hc0 : ∃ u, (cells 0)[0]? = some u := ⟨_, List.getElem?_eq_getElem (by rw [hl 0 h0]; exact hs)⟩
    obtain ⟨u0, hu0⟩ := hc0
    obtain ⟨e, he⟩ := typed_of_cellO (h 0 h0 0 u0 hu0)
    rw [block_of_add] at he
    refine ⟨e, flat_lenO n hl, fun _ => ⟨ad, rfl, he, ?_⟩⟩
    intro j u hu
    obtain ⟨hj, hx⟩ := flat_idx hs n hl j u hu
    have := h _ hj _ u hx
    rwa [Nat.div_add_mod' j size] at this
theorem map_range_len (f : Nat → Int × Int) (n : Nat) : ((List.range n).map f).length = n := by simp
theorem open_pts {H : Type} {enc : TypeId × Value → H} {w : World} {base : Nat} {held : Bool} {fuel : Nat} {v : Value} {x : DataW H × List MemPlace} (h : DataW.trod enc Try.prog w base (fun _ => true) held fuel 40 [v] = some x) :
    ∃ (A : Option Addr) (n c : Nat) (l : List (Int × Int)) (e1 : TypeId), v = .slice A n c ∧ l.length = n ∧ Reads w e1 2 A n (l.flatMap cellsP) ∧ n ≤ c ∧ c ≤ maxLen := by
  rcases Go.Deep.open_slice_pairs Try.underlying40 Try.underlying47 (by kernel_rfl) rfl rfl (by kernel_rfl) (by kernel_rfl) h with ⟨hcs, _⟩ | ⟨a, l, c, m, n, V0, V1, D0, D1, P0, P1, hcs, _, hl, hm, hmm, _, hall⟩
  · simp only [List.cons.injEq, and_true] at hcs
    exact ⟨none, 0, 0, [], 0, hcs, rfl, Reads.none_, Nat.le_refl _, Nat.zero_le _⟩
  · simp only [List.cons.injEq, and_true] at hcs
    rw [if_pos rfl] at hmm
    have h2 : ∀ i, ∃ X : Int × Int, i < l → w.cell? (a.add (i * 2)) = some (.int .i64 X.1) ∧ w.cell? (a.add (i * 2 + 1)) = some (.int .i64 X.2) := by
      intro i
      by_cases hi : i < l
      · obtain ⟨c0, c1, t0, t1⟩ := hall i (by omega)
        obtain ⟨y0, e0, _, _⟩ := DataW.trod_int Try.underlying2 t0
        obtain ⟨y1, e1, _, _⟩ := DataW.trod_int Try.underlying2 t1
        simp only [List.cons.injEq, and_true] at e0 e1
        rw [e0] at c0
        rw [e1] at c1
        exact ⟨(y0, y1), fun _ => ⟨c0, c1⟩⟩
      · exact ⟨(0, 0), fun h => absurd h hi⟩
    obtain ⟨f, hf⟩ := Classical.axiomOfChoice h2
    obtain ⟨e, he⟩ := reads_of_fn (w := w) (ad := a) (n := l) (size := 2) (cells := fun i => cellsP (f i)) (by omega) (fun i _ => rfl) (by
      intro i hi j u hu
      unfold cellsP at hu
      match j with
      | 0 => simp only [List.getElem?_cons_zero, Option.some.injEq] at hu; subst hu; exact (hf i hi).1
      | 1 => simp only [List.getElem?_cons_succ, List.getElem?_cons_zero, Option.some.injEq] at hu; subst hu; exact (hf i hi).2
      | j + 2 => simp at hu)
    refine ⟨some a, l, c, (List.range l).map f, e, hcs, map_range_len f l, ?_, hl, hm⟩
    rw [List.flatMap_map]
    exact he
theorem list1 {α : Type} {l : List α} (h : l.length = 1) : ∃ a0, l = [a0] := by
  match l, h with
  | [a0], _ => exact ⟨a0, rfl⟩
theorem list5 {α : Type} {l : List α} (h : l.length = 5) : ∃ a0 a1 a2 a3 a4, l = [a0, a1, a2, a3, a4] := by
  match l, h with
  | [a0, a1, a2, a3, a4], _ => exact ⟨a0, a1, a2, a3, a4, rfl⟩
theorem list7 {α : Type} {l : List α} (h : l.length = 7) : ∃ a0 a1 a2 a3 a4 a5 a6, l = [a0, a1, a2, a3, a4, a5, a6] := by
  match l, h with
  | [a0, a1, a2, a3, a4, a5, a6], _ => exact ⟨a0, a1, a2, a3, a4, a5, a6, rfl⟩
theorem wf_le {n : Int} (h : (Lit.int .i64 n).wf = true) : n ≤ 9223372036854775807 := by
  rw [Lit.wf_int_iff, IntKind.min_i64, IntKind.max_i64] at h; omega

theorem open_pgs {H : Type} {enc : TypeId × Value → H} {w : World} {base : Nat} {held : Bool} {fuel : Nat} {v : Value} {x : DataW H × List MemPlace} (h : DataW.trod enc Try.prog w base (fun _ => true) held fuel 43 [v] = some x) :
    ∃ (A : Option Addr) (n c : Nat) (l : List Int) (e1 : TypeId), v = .slice A n c ∧ l.length = n ∧ Reads w e1 1 A n (l.map (Value.int .i64)) ∧ n ≤ c ∧ c ≤ maxLen := by
  rcases Go.ChangeShapes.open_ints Try.underlying43 Try.underlying3 (by kernel_rfl) h with ⟨hcs, _⟩ | ⟨a, l, c, zs, hcs, _, hl, hm, hz, _, hcell, hwz⟩
  · simp only [List.cons.injEq, and_true] at hcs
    exact ⟨none, 0, 0, [], 0, hcs, rfl, Reads.none_, Nat.le_refl _, Nat.zero_le _⟩
  · simp only [List.cons.injEq, and_true] at hcs
    simp at hz
    obtain ⟨e, he⟩ := reads_of_fn (w := w) (ad := a) (n := l) (size := 1) (cells := fun i => [Value.int .i64 (zs.getD i 0)]) (by omega) (fun i _ => rfl) (by
      intro i hi j u hu
      match j with
      | 0 =>
        simp only [List.getElem?_cons_zero, Option.some.injEq] at hu
        subst hu
        rw [Nat.mul_one, Nat.add_zero]
        exact hcell i (by omega)
      | j + 1 => simp at hu)
    refine ⟨some a, l, c, (List.range l).map (fun i => zs.getD i 0), e, hcs, by simp, ?_, hl, hm⟩
    have hmap : ((List.range l).map (fun i => zs.getD i 0)).map (Value.int .i64) = (List.range l).flatMap (fun i => [Value.int .i64 (zs.getD i 0)]) := by
      rw [List.map_map]
      induction List.range l with
      | nil => rfl
      | cons x t ih => rw [List.map_cons, List.flatMap_cons, ih]; rfl
    rw [hmap]
    exact he
def EnArg (w : World) (e : EnA) : Prop := (∃ t, Reads w t 1 e.2.1 e.1.ps.length (e.1.ps.map (Value.int .i64))) ∧ (e.1.ps.length ≤ e.2.2 ∧ e.2.2 ≤ maxLen) ∧ e.1.fs ≤ 9223372036854775807
set_option maxRecDepth 100000 in
theorem open_en {H : Type} {enc : TypeId × Value → H} {w : World} {base : Nat} {held : Bool} {fuel : Nat} {cs : List Value} {x : DataW H × List MemPlace} (h : DataW.trod enc Try.prog w base (fun _ => true) held fuel 45 cs = some x) :
    ∃ e : EnA, cs = cellsN e ∧ EnArg w e := by
  obtain ⟨xs, n, _, rfl, hl, hlen, hf⟩ := DataW.trod_struct Try.underlying45 h
  rw [show Try.prog.cellsOf 45 = 5 by kernel_rfl] at hl
  obtain ⟨v0, v1, v2, v3, v4, rfl⟩ := list5 hl
  obtain ⟨y0, y1, y2, y3, y4, rfl⟩ := list5 hlen
  have g0 : DataW.trod enc Try.prog w base (fun _ => true) held n 2 [v0] = some y0 := by
    have h : DataW.trod enc Try.prog w base (fun _ => true) held n 2 (([v0, v1, v2, v3, v4].drop 0).take (Try.prog.cellsOf 2)) = _ := hf 0 _ rfl
    rw [show Try.prog.cellsOf 2 = 1 by kernel_rfl] at h
    exact h
  have g1 : DataW.trod enc Try.prog w base (fun _ => true) held n 2 [v1] = some y1 := by
    have h : DataW.trod enc Try.prog w base (fun _ => true) held n 2 (([v0, v1, v2, v3, v4].drop 1).take (Try.prog.cellsOf 2)) = _ := hf 1 _ rfl
    rw [show Try.prog.cellsOf 2 = 1 by kernel_rfl] at h
    exact h
  have g2 : DataW.trod enc Try.prog w base (fun _ => true) held n 3 [v2] = some y2 := by
    have h : DataW.trod enc Try.prog w base (fun _ => true) held n 3 (([v0, v1, v2, v3, v4].drop 2).take (Try.prog.cellsOf 3)) = _ := hf 2 _ rfl
    rw [show Try.prog.cellsOf 3 = 1 by kernel_rfl] at h
    exact h
  have g3 : DataW.trod enc Try.prog w base (fun _ => true) held n 43 [v3] = some y3 := by
    have h : DataW.trod enc Try.prog w base (fun _ => true) held n 43 (([v0, v1, v2, v3, v4].drop 3).take (Try.prog.cellsOf 43)) = _ := hf 3 _ rfl
    rw [show Try.prog.cellsOf 43 = 1 by kernel_rfl] at h
    exact h
  have g4 : DataW.trod enc Try.prog w base (fun _ => true) held n 3 [v4] = some y4 := by
    have h : DataW.trod enc Try.prog w base (fun _ => true) held n 3 (([v0, v1, v2, v3, v4].drop 4).take (Try.prog.cellsOf 3)) = _ := hf 4 _ rfl
    rw [show Try.prog.cellsOf 3 = 1 by kernel_rfl] at h
    exact h
  obtain ⟨a0, e0, _, hw0⟩ := DataW.trod_int Try.underlying2 g0
  obtain ⟨a1, e1, _, _⟩ := DataW.trod_int Try.underlying2 g1
  obtain ⟨a2, e2, _, _⟩ := DataW.trod_int Try.underlying3 g2
  obtain ⟨A, k, c, l, e, rfl, rfl, hr, h1, h2⟩ := open_pgs g3
  obtain ⟨a4, e4, _, _⟩ := DataW.trod_int Try.underlying3 g4
  simp only [List.cons.injEq, and_true] at e0 e1 e2 e4
  subst e0 e1 e2 e4
  exact ⟨(⟨a0, a1, a2, a4, l⟩, A, c), rfl, ⟨e, hr⟩, ⟨h1, h2⟩, wf_le hw0⟩
set_option maxRecDepth 100000 in
theorem open_ens {H : Type} {enc : TypeId × Value → H} {w : World} {base : Nat} {held : Bool} {fuel : Nat} {v : Value} {x : DataW H × List MemPlace} (h : DataW.trod enc Try.prog w base (fun _ => true) held fuel 39 [v] = some x) :
    ∃ (A : Option Addr) (n c : Nat) (l : List EnA), v = .slice A n c ∧ l.length = n ∧ (∃ e1, Reads w e1 5 A n (l.flatMap cellsN)) ∧ n ≤ c ∧ c ≤ maxLen ∧ ∀ q ∈ l, EnArg w q := by
  rcases Go.Deep.open_slice Try.underlying39 h with ⟨hcs, _⟩ | ⟨a, l, c, m, n, D, Pl, hcs, _, hl, hm, hmm, _, hall⟩
  · simp only [List.cons.injEq, and_true] at hcs
    exact ⟨none, 0, 0, [], hcs, rfl, ⟨0, Reads.none_⟩, Nat.le_refl _, Nat.zero_le _, fun q hq => absurd hq (by simp)⟩
  · simp only [List.cons.injEq, and_true] at hcs
    rw [if_pos rfl] at hmm
    have h2 : ∀ i, ∃ X : EnA, i < l → (∀ j u, (cellsN X)[j]? = some u → w.cell? (a.add (i * 5 + j)) = some u) ∧ EnArg w X := by
      intro i
      by_cases hi : i < l
      · obtain ⟨cs', h1, h2⟩ := hall i (by omega)
        obtain ⟨mu, rfl, hr⟩ := open_en h2
        rw [show Try.prog.cellsOf 45 = 5 by kernel_rfl] at h1
        obtain ⟨_, hlen, hcell⟩ := World.cells?_some h1
        refine ⟨mu, fun _ => ⟨?_, hr⟩⟩
        intro j u hu
        have hj : j < 5 := (List.getElem?_eq_some_iff.1 hu).1
        have := hcell j hj
        rw [add_of_add] at this
        rw [this]
        exact hu
      · exact ⟨(⟨0, 0, 0, 0, []⟩, none, 0), fun h => absurd h hi⟩
    obtain ⟨f, hf⟩ := Classical.axiomOfChoice h2
    obtain ⟨e, he⟩ := reads_of_fn (w := w) (ad := a) (n := l) (size := 5) (cells := fun i => cellsN (f i)) (by omega) (fun i _ => rfl) (fun i hi j u hu => (hf i hi).1 j u hu)
    refine ⟨some a, l, c, (List.range l).map f, hcs, by simp, ⟨e, ?_⟩, hl, hm, ?_⟩
    · rw [List.flatMap_map]
      exact he
    · intro q hq
      obtain ⟨i, hi, rfl⟩ := List.mem_map.1 hq
      exact (hf i (List.mem_range.1 hi)).2

set_option maxRecDepth 100000 in
theorem open_ro {H : Type} {enc : TypeId × Value → H} {w : World} {base : Nat} {held : Bool} {fuel : Nat} {cs : List Value} {x : DataW H × List MemPlace} (h : DataW.trod enc Try.prog w base (fun _ => true) held fuel 42 cs = some x) :
    ∃ r : RoA, cs = cellsR r ∧ RoArg w r := by
  obtain ⟨xs, n, _, rfl, hl, hlen, hf⟩ := DataW.trod_struct Try.underlying42 h
  rw [show Try.prog.cellsOf 42 = 7 by kernel_rfl] at hl
  obtain ⟨v0, v1, v2, v3, v4, v5, v6, rfl⟩ := list7 hl
  obtain ⟨y0, y1, y2, y3, y4, y5, y6, rfl⟩ := list7 hlen
  have g0 : DataW.trod enc Try.prog w base (fun _ => true) held n 9 [v0] = some y0 := by
    have h : DataW.trod enc Try.prog w base (fun _ => true) held n 9 (([v0, v1, v2, v3, v4, v5, v6].drop 0).take (Try.prog.cellsOf 9)) = _ := hf 0 _ rfl
    rw [show Try.prog.cellsOf 9 = 1 by kernel_rfl] at h
    exact h
  have g1 : DataW.trod enc Try.prog w base (fun _ => true) held n 2 [v1] = some y1 := by
    have h : DataW.trod enc Try.prog w base (fun _ => true) held n 2 (([v0, v1, v2, v3, v4, v5, v6].drop 1).take (Try.prog.cellsOf 2)) = _ := hf 1 _ rfl
    rw [show Try.prog.cellsOf 2 = 1 by kernel_rfl] at h
    exact h
  have g2 : DataW.trod enc Try.prog w base (fun _ => true) held n 2 [v2] = some y2 := by
    have h : DataW.trod enc Try.prog w base (fun _ => true) held n 2 (([v0, v1, v2, v3, v4, v5, v6].drop 2).take (Try.prog.cellsOf 2)) = _ := hf 2 _ rfl
    rw [show Try.prog.cellsOf 2 = 1 by kernel_rfl] at h
    exact h
  have g3 : DataW.trod enc Try.prog w base (fun _ => true) held n 2 [v3] = some y3 := by
    have h : DataW.trod enc Try.prog w base (fun _ => true) held n 2 (([v0, v1, v2, v3, v4, v5, v6].drop 3).take (Try.prog.cellsOf 2)) = _ := hf 3 _ rfl
    rw [show Try.prog.cellsOf 2 = 1 by kernel_rfl] at h
    exact h
  have g4 : DataW.trod enc Try.prog w base (fun _ => true) held n 3 [v4] = some y4 := by
    have h : DataW.trod enc Try.prog w base (fun _ => true) held n 3 (([v0, v1, v2, v3, v4, v5, v6].drop 4).take (Try.prog.cellsOf 3)) = _ := hf 4 _ rfl
    rw [show Try.prog.cellsOf 3 = 1 by kernel_rfl] at h
    exact h
  have g5 : DataW.trod enc Try.prog w base (fun _ => true) held n 39 [v5] = some y5 := by
    have h : DataW.trod enc Try.prog w base (fun _ => true) held n 39 (([v0, v1, v2, v3, v4, v5, v6].drop 5).take (Try.prog.cellsOf 39)) = _ := hf 5 _ rfl
    rw [show Try.prog.cellsOf 39 = 1 by kernel_rfl] at h
    exact h
  have g6 : DataW.trod enc Try.prog w base (fun _ => true) held n 40 [v6] = some y6 := by
    have h : DataW.trod enc Try.prog w base (fun _ => true) held n 40 (([v0, v1, v2, v3, v4, v5, v6].drop 6).take (Try.prog.cellsOf 40)) = _ := hf 6 _ rfl
    rw [show Try.prog.cellsOf 40 = 1 by kernel_rfl] at h
    exact h
  obtain ⟨a0, e0, _, _⟩ := DataW.trod_string Try.underlying9 g0
  obtain ⟨a1, e1, _, _⟩ := DataW.trod_int Try.underlying2 g1
  obtain ⟨a2, e2, _, _⟩ := DataW.trod_int Try.underlying2 g2
  obtain ⟨a3, e3, _, _⟩ := DataW.trod_int Try.underlying2 g3
  obtain ⟨a4, e4, _, _⟩ := DataW.trod_int Try.underlying3 g4
  obtain ⟨EA, ek, ec, en, rfl, rfl, her, hec, hem, hens⟩ := open_ens g5
  obtain ⟨OA, ok, oc, op, oe, rfl, rfl, hor, hoc, hom⟩ := open_pts g6
  simp only [List.cons.injEq, and_true] at e0 e1 e2 e3 e4
  subst e0 e1 e2 e3 e4
  exact ⟨⟨a0, a1, a2, a3, a4, en, EA, ec, op, OA, oc⟩, rfl, her, ⟨hec, hem⟩, hens, ⟨oe, hor⟩, ⟨hoc, hom⟩⟩
set_option maxRecDepth 100000 in
theorem open_ros {H : Type} {enc : TypeId × Value → H} {w : World} {base : Nat} {held : Bool} {fuel : Nat} {v : Value} {x : DataW H × List MemPlace} (h : DataW.trod enc Try.prog w base (fun _ => true) held fuel 22 [v] = some x) :
    ∃ (A : Option Addr) (n c : Nat) (l : List RoA), v = .slice A n c ∧ l.length = n ∧ (∃ e1, Reads w e1 7 A n (l.flatMap cellsR)) ∧ n ≤ c ∧ c ≤ maxLen ∧ ∀ q ∈ l, RoArg w q := by
  rcases Go.Deep.open_slice Try.underlying22 h with ⟨hcs, _⟩ | ⟨a, l, c, m, n, D, Pl, hcs, _, hl, hm, hmm, _, hall⟩
  · simp only [List.cons.injEq, and_true] at hcs
    exact ⟨none, 0, 0, [], hcs, rfl, ⟨0, Reads.none_⟩, Nat.le_refl _, Nat.zero_le _, fun q hq => absurd hq (by simp)⟩
  · simp only [List.cons.injEq, and_true] at hcs
    rw [if_pos rfl] at hmm
    have h2 : ∀ i, ∃ X : RoA, i < l → (∀ j u, (cellsR X)[j]? = some u → w.cell? (a.add (i * 7 + j)) = some u) ∧ RoArg w X := by
      intro i
      by_cases hi : i < l
      · obtain ⟨cs', h1, h2⟩ := hall i (by omega)
        obtain ⟨mu, rfl, hr⟩ := open_ro h2
        rw [show Try.prog.cellsOf 42 = 7 by kernel_rfl] at h1
        obtain ⟨_, hlen, hcell⟩ := World.cells?_some h1
        refine ⟨mu, fun _ => ⟨?_, hr⟩⟩
        intro j u hu
        have hj : j < 7 := (List.getElem?_eq_some_iff.1 hu).1
        have := hcell j hj
        rw [add_of_add] at this
        rw [this]
        exact hu
      · exact ⟨⟨⟨#[]⟩, 0, 0, 0, 0, [], none, 0, [], none, 0⟩, fun h => absurd h hi⟩
    obtain ⟨f, hf⟩ := Classical.axiomOfChoice h2
    obtain ⟨e, he⟩ := reads_of_fn (w := w) (ad := a) (n := l) (size := 7) (cells := fun i => cellsR (f i)) (by omega) (fun i _ => rfl) (fun i hi j u hu => (hf i hi).1 j u hu)
    refine ⟨some a, l, c, (List.range l).map f, hcs, by simp, ⟨e, ?_⟩, hl, hm, ?_⟩
    · rw [List.flatMap_map]
      exact he
    · intro q hq
      obtain ⟨i, hi, rfl⟩ := List.mem_map.1 hq
      exact (hf i (List.mem_range.1 hi)).2

set_option maxRecDepth 100000 in
theorem open_man {H : Type} {enc : TypeId × Value → H} {w : World} {r : Reach} {b0 base : Nat} {held : Bool} {v : Value} {d : DataW H} {p : List MemPlace} (hv : Value.okWide Try.prog w r b0 24 v) (h : DataW.Trod enc Try.prog w base (fun _ => true) held 24 v d p) :
    ∃ (A : Option Addr) (n c : Nat) (l : List RoA), v = .agg #[.slice A n c] ∧ MArg w A n c l := by
  obtain ⟨cs0, rfl, hsz⟩ := Go.WideShapes.okWide_struct Try.underlying24 hv
  obtain ⟨fuel, h⟩ := h
  obtain ⟨q⟩ := cs0
  simp only [Value.cells] at h
  obtain ⟨xs, n, _, hq, hl, hlen, hf⟩ := DataW.trod_struct Try.underlying24 h
  rw [show Try.prog.cellsOf 24 = 1 by kernel_rfl] at hl
  obtain ⟨v0, rfl⟩ := list1 hl
  obtain ⟨y0, rfl⟩ := list1 hlen
  have g0 : DataW.trod enc Try.prog w base (fun _ => true) held n 22 [v0] = some y0 := by
    have h : DataW.trod enc Try.prog w base (fun _ => true) held n 22 (([v0].drop 0).take (Try.prog.cellsOf 22)) = _ := hf 0 _ rfl
    rw [show Try.prog.cellsOf 22 = 1 by kernel_rfl] at h
    exact h
  obtain ⟨A, k, c, l, rfl, hl2, hr, h1, h2, h3⟩ := open_ros g0
  exact ⟨A, k, c, l, rfl, hr, h3, h1, h2⟩
end Go.Proofs.Ytgdnpmjmkcccoaa
namespace Go.Proofs.Ytgdnpmjmkcccoaa
open Go.RowKit Go.Shelf VB
open Go.Lib (hid)
set_option linter.unusedVariables false
set_option linter.unusedSimpArgs false
theorem MArg.below {w w' : World} {A : Option Addr} {n c : Nat} {l : List RoA} (h : MArg w A n c l) (hb : Below w.heap.size w w') : MArg w' A n c l :=
  ⟨h.rows.elim fun e k => ⟨e, k.below hb⟩, fun x hx => (h.each x hx).below hb, h.hn, h.hc⟩
theorem vbI_byte (z : Int) : ∀ x ∈ vbI z, x < 256 := vb_byte _
theorem entB_byte (ah : Int) (e : En) : ∀ x ∈ entB ah e, x < 256 := by
  intro x hx
  unfold entB at hx
  rcases List.mem_append.1 hx with hx | hx
  · obtain ⟨z, _, h⟩ := List.mem_flatMap.1 hx; exact vbI_byte z x h
  · obtain ⟨z, _, h⟩ := List.mem_flatMap.1 hx; exact vbI_byte z x h
theorem ensB_byte : ∀ (l : List En) (ah : Int), ∀ x ∈ ensB ah l, x < 256
  | [], _, x, hx => by simp [ensB] at hx
  | e :: l, ah, x, hx => by
    unfold ensB at hx
    rcases List.mem_append.1 hx with hx | hx
    · exact entB_byte _ _ x hx
    · exact ensB_byte l _ x hx
theorem ptsB2_byte : ∀ (l : List (Int × Int)) (was : Int × Int), ∀ x ∈ ptsB2 was l, x < 256
  | [], _, x, hx => by simp [ptsB2] at hx
  | p :: l, was, x, hx => by
    unfold ptsB2 ptB2 at hx
    rcases List.mem_append.1 hx with hx | hx
    · rcases List.mem_append.1 hx with hx | hx
      · obtain ⟨z, _, h⟩ := List.mem_flatMap.1 hx; exact vbI_byte z x h
      · exact vb_byte _ x hx
    · exact ptsB2_byte l _ x hx
theorem rowBy_byte {r : Ro} (h : RowOk r) : ∀ x ∈ rowBy r, x < 256 := by
  intro x hx
  have hn := h.fit.nm
  have hfm : ∀ l : List Int, ∀ x ∈ l.flatMap vbI, x < 256 := fun l x hx => by obtain ⟨z, _, h⟩ := List.mem_flatMap.1 hx; exact vbI_byte z x h
  unfold rowBy at hx
  simp only [List.mem_append] at hx
  rcases hx with hx | hx | hx | hx | hx | hx | hx
  · rcases List.mem_cons.1 hx with rfl | hx
    · omega
    · unfold nmL at hx
      obtain ⟨b, _, rfl⟩ := List.mem_map.1 hx
      exact b.toNat_lt
  · exact hfm _ x hx
  · exact vb_byte _ x hx
  · exact hfm _ x hx
  · exact ensB_byte _ _ x hx
  · exact hfm _ x hx
  · exact ptsB2_byte _ _ x hx
theorem manBy_byte {l : List Ro} (h : ManOk l) : ∀ x ∈ manBy l, x < 256 := by
  intro x hx
  unfold manBy at hx
  rcases List.mem_append.1 hx with hx | hx
  · obtain ⟨z, _, h⟩ := List.mem_flatMap.1 hx; exact vbI_byte z x h
  · obtain ⟨r, hr, hx⟩ := List.mem_flatMap.1 hx; exact rowBy_byte (h.rows r hr) x hx
/-- what Encode hands back for a manifest that may be -/
def RetEncR (l : List Nat) (n : Nat) (w : World) (e : Ending) (w' : World) : Prop :=
  ∃ C f, e = .returned (.tuple #[.slice C n f, .int .i64 0]) ∧ Below w.heap.size w w' ∧ Reads w' 5 1 C n (bsV l) ∧ n ≤ f ∧ f ≤ maxLen
def RetEncW (w : World) (e : Ending) (w' : World) : Prop := e = .returned (.tuple #[.slice none 0 0, .int .i64 320]) ∧ Below w.heap.size w w'
theorem encM_right {l : List Ro} {w w' : World} {e : Ending} (h : RetEnc l w e w') (ho : manOk l = true) {n : Nat} (hn : (manBy l).length = n) : RetEncR (manBy l) n w e w' := by
  unfold RetEnc at h
  rw [if_pos ho, hn] at h
  obtain ⟨C, f, he, hb, ho⟩ := h
  unfold OwnY at hb
  rw [hn] at hb
  obtain ⟨_, _, hv, hf1, hf2⟩ := own_form hb
  injection hv with hv1 hv2 hv3
  exact ⟨C, f, he, ho, Reads.of_own hb, by omega, by omega⟩
theorem encM_wrong {l : List Ro} {w w' : World} {e : Ending} (h : RetEnc l w e w') (ho : manOk l = false) : RetEncW w e w' := by
  unfold RetEnc at h
  rw [if_neg (by rw [ho]; decide)] at h
  exact h
theorem not_preM {a b : List Ro} (ha : ManOk a) (hb : ManOk b) (ob : manOk b = true) (hne : ¬ a = b) {n : Nat} (hn : n = (manBy a).length) : decide ((manBy b).take n = manBy a) = false :=
  decide_eq_false fun h => hne (man_free (r := (manBy b).drop n) ha hb ob (by rw [← h, List.take_append_drop]))
theorem src_of {w : World} {C : Option Addr} {n f : Nat} {l : List Nat} (h : Reads w 5 1 C n (bsV l)) (h1 : n ≤ f) (h2 : f ≤ maxLen) (hl : n ≤ 1000000) (hb : ∀ x ∈ l, x < 256) : Src w C n f l := ⟨h, hl, h1, h2, hb⟩
theorem ownN {l : List Ro} {w w' : World} {e : Ending} (h : RetOwn22 l w e w') : ∃ (ns : List RoA) (k : Nat) (C : Option Addr) (f : Nat), ns.map RoA.d = ownL l 9 ∧ e = .returned (.agg #[.slice C k f]) ∧ ManIn w' C k f ns ∧ Below w.heap.size w w' ∧ (w'.ownsRow w.heap.size 42 7 (.slice C k f) k (ns.flatMap cellsR) ∧ ∀ x ∈ ns, RoFr w' x) ∧ k ≤ 9 := by
  obtain ⟨ns, C, f, h1, h2, h3, h4, h5⟩ := h
  have hl : ns.length ≤ 9 := by
    have := congrArg List.length h1
    unfold ownL at this
    rw [List.length_map, List.length_map, List.length_take] at this
    omega
  exact ⟨ns, ns.length, C, f, h1, h2, ⟨⟨_, Reads.of_own h3⟩, fun x hx => (h4 x hx).inn, by omega⟩, h5, ⟨h3, h4⟩, hl⟩
end Go.Proofs.Ytgdnpmjmkcccoaa
