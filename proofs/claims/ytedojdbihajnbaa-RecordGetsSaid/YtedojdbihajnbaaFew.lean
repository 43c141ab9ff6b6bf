/- The arguments of the Record laws opened; what may be, its bytes; few (seat Record). -/
import Derived.Test.YtedojdbihajnbaaRecI
import Derived.Test.YtedojdbihajnbaaRecH
import Derived.Deep.SlicePairs
import Derived.Lib.SmallJoins
import Derived.ChangeArms
import Derived.OpenShut
import Derived.Test.YtedojdbihajnbaaRecX
import Derived.Test.YtedojdbihajnbaaRecT
namespace Go.Proofs.Ytedojdbihajnbaa
open Go.RowKit Go.Shelf VB
open Go.Lib (hid)
set_option linter.unusedVariables false
set_option linter.unusedSimpArgs false
theorem typed_of_cellO {w : World} {p : Addr} {v : Value} (h : w.cell? p = some v) : ∃ e, Typed w p.block e := by
  unfold World.cell? at h
  split at h
  · rename_i cs e fr he
    exact ⟨e, cs, fr, he⟩
  · cases h
theorem flat_lenO {cells : Nat → List Value} {size : Nat} : ∀ n, (∀ i, i < n → (cells i).length = size) → ((List.range n).flatMap cells).length = n * size := by
  intro n
  induction n with
  | zero => intro _; simp
  | succ n ih =>
    intro hl
    rw [List.range_succ, List.flatMap_append, List.length_append, ih (fun i hi => hl i (by omega)), List.flatMap_singleton, hl n (by omega), Nat.succ_mul]
theorem flat_idx {cells : Nat → List Value} {size : Nat} (hs : 0 < size) : ∀ n, (∀ i, i < n → (cells i).length = size) → ∀ j u, ((List.range n).flatMap cells)[j]? = some u → j / size < n ∧ (cells (j / size))[j % size]? = some u := by
  intro n
  induction n with
  | zero => intro _ j u h; simp at h
  | succ n ih =>
    intro hl j u h
    have hL := flat_lenO (cells := cells) (size := size) n (fun i hi => hl i (by omega))
    rw [List.range_succ, List.flatMap_append, List.flatMap_singleton] at h
    by_cases hj : j < n * size
    · rw [List.getElem?_append_left (by omega)] at h
      have := ih (fun i hi => hl i (by omega)) j u h
      exact ⟨by omega, this.2⟩
    · rw [List.getElem?_append_right (by omega), hL] at h
      have hlt : j - n * size < size := by
        have := (List.getElem?_eq_some_iff.1 h).1
        rw [hl n (by omega)] at this
        exact this
      have hd : j / size = n := by
        rw [show j = (j - n * size) + n * size by omega, Nat.add_mul_div_right _ _ hs, Nat.div_eq_of_lt hlt]; omega
      have hm : j % size = j - n * size := by
        rw [show j = (j - n * size) + n * size by omega, Nat.add_mul_mod_self_right, Nat.mod_eq_of_lt (by omega)]
        omega
      rw [hd, hm]
      exact ⟨by omega, h⟩
theorem reads_of_fn {w : World} {ad : Addr} {n size : Nat} {cells : Nat → List Value} (hs : 0 < size) (hl : ∀ i, i < n → (cells i).length = size) (h : ∀ i, i < n → ∀ j u, (cells i)[j]? = some u → w.cell? (ad.add (i * size + j)) = some u) : ∃ e, Reads w e size (some ad) n ((List.range n).flatMap cells) := by
  rcases Nat.eq_zero_or_pos n with h0 | h0
  · subst h0
    exact ⟨0, by simp, fun h => absurd h (by omega)⟩
  · have hc0 : ∃ u, (cells 0)[0]? = some u := ⟨_, List.getElem?_eq_getElem (by rw [hl 0 h0]; exact hs)⟩
    obtain ⟨u0, hu0⟩ := hc0
    obtain ⟨e, he⟩ := typed_of_cellO (h 0 h0 0 u0 hu0)
    rw [block_of_add] at he
    refine ⟨e, flat_lenO n hl, fun _ => ⟨ad, rfl, he, ?_⟩⟩
    intro j u hu
    obtain ⟨hj, hx⟩ := flat_idx hs n hl j u hu
    have := h _ hj _ u hx
    rwa [Nat.div_add_mod' j size] at this
theorem map_range_len (f : Nat → Int × Int) (n : Nat) : ((List.range n).map f).length = n := by simp
theorem open_pts {H : Type} {enc : TypeId × Value → H} {w : World} {base : Nat} {held : Bool} {fuel : Nat} {v : Value} {x : DataW H × List MemPlace} (h : DataW.trod enc Try.prog w base (fun _ => true) held fuel 22 [v] = some x) :
    ∃ (A : Option Addr) (n c : Nat) (l : List (Int × Int)) (e1 : TypeId), v = .slice A n c ∧ l.length = n ∧ Reads w e1 2 A n (l.flatMap cellsP) ∧ n ≤ c ∧ c ≤ maxLen := by
  rcases Go.Deep.open_slice_pairs Try.underlying22 Try.underlying51 (by kernel_rfl) rfl rfl (by kernel_rfl) (by kernel_rfl) h with ⟨hcs, _⟩ | ⟨a, l, c, m, n, V0, V1, D0, D1, P0, P1, hcs, _, hl, hm, hmm, _, hall⟩
  · simp only [List.cons.injEq, and_true] at hcs
    exact ⟨none, 0, 0, [], 0, hcs, rfl, Reads.none_, Nat.le_refl _, Nat.zero_le _⟩
  · simp only [List.cons.injEq, and_true] at hcs
    rw [if_pos rfl] at hmm
    have h2 : ∀ i, ∃ X : Int × Int, i < l → w.cell? (a.add (i * 2)) = some (.int .i64 X.1) ∧ w.cell? (a.add (i * 2 + 1)) = some (.int .i64 X.2) := by
      intro i
      by_cases hi : i < l
      · obtain ⟨c0, c1, t0, t1⟩ := hall i (by omega)
        obtain ⟨y0, e0, _, _⟩ := DataW.trod_int Try.underlying2 t0
        obtain ⟨y1, e1, _, _⟩ := DataW.trod_int Try.underlying2 t1
        simp only [List.cons.injEq, and_true] at e0 e1
        rw [e0] at c0
        rw [e1] at c1
        exact ⟨(y0, y1), fun _ => ⟨c0, c1⟩⟩
      · exact ⟨(0, 0), fun h => absurd h hi⟩
    obtain ⟨f, hf⟩ := Classical.axiomOfChoice h2
    obtain ⟨e, he⟩ := reads_of_fn (w := w) (ad := a) (n := l) (size := 2) (cells := fun i => cellsP (f i)) (by omega) (fun i _ => rfl) (by
      intro i hi j u hu
      unfold cellsP at hu
      match j with
      | 0 => simp only [List.getElem?_cons_zero, Option.some.injEq] at hu; subst hu; exact (hf i hi).1
      | 1 => simp only [List.getElem?_cons_succ, List.getElem?_cons_zero, Option.some.injEq] at hu; subst hu; exact (hf i hi).2
      | j + 2 => simp at hu)
    refine ⟨some a, l, c, (List.range l).map f, e, hcs, map_range_len f l, ?_, hl, hm⟩
    rw [List.flatMap_map]
    exact he
theorem list6 {α : Type} {l : List α} (h : l.length = 6) : ∃ a b c d e f, l = [a, b, c, d, e, f] := by
  match l, h with
  | [a, b, c, d, e, f], _ => exact ⟨a, b, c, d, e, f, rfl⟩
set_option maxRecDepth 100000 in
/-- six cells of a struct, opened -/
theorem open_six {H : Type} {enc : TypeId × Value → H} {w : World} {base : Nat} {held : Bool} {fuel : Nat} {cs : List Value} {x : DataW H × List MemPlace} (h : DataW.trod enc Try.prog w base (fun _ => true) held fuel 24 cs = some x) :
    ∃ (m : Mu) (A : Option Addr) (c : Nat) (e1 : TypeId), cs = [.int .i64 m.kind, .string m.name, .int .i64 m.eps, .int .i64 m.floor, .int .i64 m.scale, .slice A m.pts.length c] ∧ Reads w e1 2 A m.pts.length (m.pts.flatMap cellsP) ∧ m.pts.length ≤ c ∧ c ≤ maxLen := by
  obtain ⟨xs, n, _, rfl, hl, hlen, hf⟩ := DataW.trod_struct Try.underlying24 h
  rw [show Try.prog.cellsOf 24 = 6 by kernel_rfl] at hl
  obtain ⟨v0, v1, v2, v3, v4, v5, rfl⟩ := list6 hl
  obtain ⟨y0, y1, y2, y3, y4, y5, rfl⟩ := list6 hlen
  have g0 : DataW.trod enc Try.prog w base (fun _ => true) held n 3 [v0] = some y0 := by
    have h : DataW.trod enc Try.prog w base (fun _ => true) held n 3 (([v0, v1, v2, v3, v4, v5].drop 0).take (Try.prog.cellsOf 3)) = _ := hf 0 _ rfl
    rw [show Try.prog.cellsOf 3 = 1 by kernel_rfl] at h
    exact h
  have g1 : DataW.trod enc Try.prog w base (fun _ => true) held n 9 [v1] = some y1 := by
    have h : DataW.trod enc Try.prog w base (fun _ => true) held n 9 (([v0, v1, v2, v3, v4, v5].drop 1).take (Try.prog.cellsOf 9)) = _ := hf 1 _ rfl
    rw [show Try.prog.cellsOf 9 = 1 by kernel_rfl] at h
    exact h
  have g2 : DataW.trod enc Try.prog w base (fun _ => true) held n 2 [v2] = some y2 := by
    have h : DataW.trod enc Try.prog w base (fun _ => true) held n 2 (([v0, v1, v2, v3, v4, v5].drop 2).take (Try.prog.cellsOf 2)) = _ := hf 2 _ rfl
    rw [show Try.prog.cellsOf 2 = 1 by kernel_rfl] at h
    exact h
  have g3 : DataW.trod enc Try.prog w base (fun _ => true) held n 2 [v3] = some y3 := by
    have h : DataW.trod enc Try.prog w base (fun _ => true) held n 2 (([v0, v1, v2, v3, v4, v5].drop 3).take (Try.prog.cellsOf 2)) = _ := hf 3 _ rfl
    rw [show Try.prog.cellsOf 2 = 1 by kernel_rfl] at h
    exact h
  have g4 : DataW.trod enc Try.prog w base (fun _ => true) held n 3 [v4] = some y4 := by
    have h : DataW.trod enc Try.prog w base (fun _ => true) held n 3 (([v0, v1, v2, v3, v4, v5].drop 4).take (Try.prog.cellsOf 3)) = _ := hf 4 _ rfl
    rw [show Try.prog.cellsOf 3 = 1 by kernel_rfl] at h
    exact h
  have g5 : DataW.trod enc Try.prog w base (fun _ => true) held n 22 [v5] = some y5 := by
    have h : DataW.trod enc Try.prog w base (fun _ => true) held n 22 (([v0, v1, v2, v3, v4, v5].drop 5).take (Try.prog.cellsOf 22)) = _ := hf 5 _ rfl
    rw [show Try.prog.cellsOf 22 = 1 by kernel_rfl] at h
    exact h
  obtain ⟨a0, e0, _, _⟩ := DataW.trod_int Try.underlying3 g0
  obtain ⟨a1, e1, _, _⟩ := DataW.trod_string Try.underlying9 g1
  obtain ⟨a2, e2, _, _⟩ := DataW.trod_int Try.underlying2 g2
  obtain ⟨a3, e3, _, _⟩ := DataW.trod_int Try.underlying2 g3
  obtain ⟨a4, e4, _, _⟩ := DataW.trod_int Try.underlying3 g4
  obtain ⟨A, k, c, l, e, rfl, rfl, hr, h1, h2⟩ := open_pts g5
  simp only [List.cons.injEq, and_true] at e0 e1 e2 e3 e4
  subst e0 e1 e2 e3 e4
  exact ⟨⟨a0, a1, a2, a3, a4, l⟩, A, c, e, rfl, hr, h1, h2⟩
/-- a mutation, as it came in -/
def MuIn (w : World) (m : Mu) (A : Option Addr) (c : Nat) : Prop := ∃ e1, Reads w e1 2 A m.pts.length (m.pts.flatMap cellsP) ∧ m.pts.length ≤ c ∧ c ≤ maxLen
/-- a row of mutations, as it came in -/
def MusIn (w : World) (A : Option Addr) (n c : Nat) (ms : List MuA) : Prop := ∃ e1, ms.length = n ∧ Reads w e1 6 A n (ms.flatMap cellsM) ∧ n ≤ c ∧ c ≤ maxLen ∧ ∀ q ∈ ms, MuIn w q.1 q.2.1 q.2.2
set_option maxRecDepth 100000 in
theorem open_mu {H : Type} {enc : TypeId × Value → H} {w : World} {r : Reach} {b0 base : Nat} {held : Bool} {v : Value} {d : DataW H} {p : List MemPlace} (hv : Value.okWide Try.prog w r b0 24 v) (h : DataW.Trod enc Try.prog w base (fun _ => true) held 24 v d p) :
    ∃ (m : Mu) (A : Option Addr) (c : Nat), v = vM m A c ∧ MuIn w m A c := by
  obtain ⟨cs, rfl, hsz⟩ := Go.WideShapes.okWide_struct Try.underlying24 hv
  obtain ⟨fuel, hf⟩ := h
  obtain ⟨m, A, c, e1, hcs, hr, h1, h2⟩ := open_six hf
  refine ⟨m, A, c, ?_, e1, hr, h1, h2⟩
  obtain ⟨l⟩ := cs
  simp only [Value.cells] at hcs
  subst hcs
  rfl
set_option maxRecDepth 100000 in
/-- the cells of a row of mutations, and the points of each -/
theorem open_mus {H : Type} {enc : TypeId × Value → H} {w : World} {base : Nat} {held : Bool} {fuel : Nat} {v : Value} {x : DataW H × List MemPlace} (h : DataW.trod enc Try.prog w base (fun _ => true) held fuel 38 [v] = some x) :
    ∃ (A : Option Addr) (n c : Nat) (ms : List MuA), v = .slice A n c ∧ MusIn w A n c ms := by
  rcases Go.Deep.open_slice Try.underlying38 h with ⟨hcs, _⟩ | ⟨a, l, c, m, n, D, Pl, hcs, _, hl, hm, hmm, _, hall⟩
  · simp only [List.cons.injEq, and_true] at hcs
    exact ⟨none, 0, 0, [], hcs, 0, rfl, Reads.none_, Nat.le_refl _, Nat.zero_le _, fun q hq => absurd hq (by simp)⟩
  · simp only [List.cons.injEq, and_true] at hcs
    rw [if_pos rfl] at hmm
    have h2 : ∀ i, ∃ X : MuA, i < l → (∀ j u, (cellsM X)[j]? = some u → w.cell? (a.add (i * 6 + j)) = some u) ∧ ∃ e, Reads w e 2 X.2.1 X.1.pts.length (X.1.pts.flatMap cellsP) ∧ X.1.pts.length ≤ X.2.2 ∧ X.2.2 ≤ maxLen := by
      intro i
      by_cases hi : i < l
      · obtain ⟨cs', h1, h2⟩ := hall i (by omega)
        obtain ⟨mu, A, c', e1, rfl, hr, hc1, hc2⟩ := open_six h2
        rw [show Try.prog.cellsOf 24 = 6 by kernel_rfl] at h1
        obtain ⟨_, hlen, hcell⟩ := World.cells?_some h1
        refine ⟨(mu, A, c'), fun _ => ⟨?_, e1, hr, hc1, hc2⟩⟩
        intro j u hu
        have hj : j < 6 := (List.getElem?_eq_some_iff.1 hu).1
        have := hcell j hj
        rw [add_of_add] at this
        rw [this]
        exact hu
      · exact ⟨(⟨0, ⟨#[]⟩, 0, 0, 0, []⟩, none, 0), fun h => absurd h hi⟩
    obtain ⟨f, hf⟩ := Classical.axiomOfChoice h2
    obtain ⟨e, he⟩ := reads_of_fn (w := w) (ad := a) (n := l) (size := 6) (cells := fun i => cellsM (f i)) (by omega) (fun i _ => rfl) (fun i hi j u hu => (hf i hi).1 j u hu)
    refine ⟨some a, l, c, (List.range l).map f, hcs, e, by simp, ?_, hl, hm, ?_⟩
    · rw [List.flatMap_map]
      exact he
    · intro q hq
      obtain ⟨i, hi, rfl⟩ := List.mem_map.1 hq
      exact (hf i (List.mem_range.1 hi)).2
end Go.Proofs.Ytedojdbihajnbaa
namespace Go.Proofs.Ytedojdbihajnbaa
open Go.RowKit Go.Shelf VB
open Go.Lib (hid)
set_option linter.unusedVariables false
set_option linter.unusedSimpArgs false
theorem rightB_of {m : Mu} (h : Right m) : rightB m = true := by
  unfold rightB headB epsB lenB timeB
  have h1 := h.k1
  have h2 := h.k4
  have h3 := h.f0
  have h4 := h.f1
  have h5 := h.e0
  have h6 := h.e1
  have h7 := h.s0
  have h8 := h.s1
  have hk : (decide (m.kind ≠ 3) || (decide (1 ≤ m.pts.length) && decide (m.pts.length ≤ 16))) = true := by
    by_cases hk : m.kind = 3
    · have := h.len hk
      simp [this.1, this.2]
    · simp [hk]
  rw [hk, h.name, h.pts, decide_eq_true h.bare, decide_eq_true h1, decide_eq_true h2, decide_eq_true h3, decide_eq_true h4, decide_eq_true h5, decide_eq_true h6, decide_eq_true h7, decide_eq_true h8]
  rfl
theorem ptBy_byte (l : List (Int × Int)) (i : Nat) : ∀ x ∈ ptBy l i, x < 256 := by
  intro x hx
  unfold ptBy at hx
  split at hx
  all_goals
    rcases List.mem_append.1 hx with h | h
    · exact vb_byte _ x h
    · exact vb_byte _ x h
theorem mutB_byte {m : Mu} (h : Right m) : ∀ x ∈ mutB m, x < 256 := by
  intro x hx
  unfold mutB at hx
  rcases List.mem_append.1 hx with hx | hx
  · rcases List.mem_append.1 hx with hx | hx
    · have h1 := h.k4
      have h2 := h.name
      unfold nameB at h2
      simp only [Bool.and_eq_true, decide_eq_true_eq] at h2
      have h3 := h2.1.2
      simp only [List.mem_cons, List.not_mem_nil, or_false] at hx
      omega
    · unfold nmL at hx
      obtain ⟨b, _, rfl⟩ := List.mem_map.1 hx
      exact b.toNat_lt
  · unfold bodyB at hx
    split at hx
    · rcases List.mem_append.1 hx with h | h
      · exact vb_byte _ x h
      · exact vb_byte _ x h
    · split at hx
      · exact absurd hx (by simp)
      · split at hx
        · rcases List.mem_append.1 hx with h | h
          · exact vb_byte _ x h
          · unfold ptsBy at h
            obtain ⟨i, _, h⟩ := List.mem_flatMap.1 h
            exact ptBy_byte _ _ x h
        · exact vb_byte _ x hx
/-- what Encode hands back for a mutation that may be -/
def RetEncR (l : List Nat) (n : Nat) (w : World) (e : Ending) (w' : World) : Prop :=
  ∃ C f, e = .returned (.tuple #[.slice C n f, .int .i64 0]) ∧ Below w.heap.size w w' ∧ Reads w' 5 1 C n (bsV l) ∧ n ≤ f ∧ f ≤ maxLen
theorem enc_right {m : Mu} {w w' : World} {e : Ending} (h : RetEnc m w e w') (hr : rightB m = true) {n : Nat} (hn : (mutB m).length = n) : RetEncR (mutB m) n w e w' := by
  unfold RetEnc at h
  rw [if_pos hr, hn] at h
  obtain ⟨C, f, he, hb, ho⟩ := h
  obtain ⟨_, _, hv, hf1, hf2⟩ := own_form ho
  injection hv with hv1 hv2 hv3
  exact ⟨C, f, he, hb, Reads.of_own ho, by omega, by omega⟩
def RetEncW (w : World) (e : Ending) (w' : World) : Prop := e = .returned (.tuple #[.slice none 0 0, .int .i64 280]) ∧ Below w.heap.size w w'
theorem enc_wrong {m : Mu} {w w' : World} {e : Ending} (h : RetEnc m w e w') (hr : rightB m = false) : RetEncW w e w' := by
  unfold RetEnc at h
  rw [if_neg (by rw [hr]; decide)] at h
  exact h
theorem not_pre {a b : Mu} (ha : Right a) (hb : Right b) (hne : ¬ a = b) {n : Nat} (hn : n = (mutB a).length) : decide ((mutB b).take n = mutB a) = false :=
  decide_eq_false fun h => hne (mutB_free (r := (mutB b).drop n) ha hb (by rw [← h, List.take_append_drop]))
theorem own40 (m : Mu) : (ownM m).pts.length ≤ 40 := by
  unfold ownM
  simp only [List.length_take]
  omega
def RetTrue (w : World) (e : Ending) (w' : World) : Prop := e = .returned (.bool true) ∧ Below w.heap.size w w'
def fewL (ms : List MuA) (k : Nat) : List Mu := (ms.take k).map fun q => ownM q.1
def PtsOwn (w : World) (ns : List MuA) : Prop := ∀ q ∈ ns, Reads w 51 2 q.2.1 q.1.pts.length (q.1.pts.flatMap cellsP) ∧ q.1.pts.length ≤ 40
def RetFew (ms : List MuA) (w : World) (e : Ending) (w' : World) : Prop :=
  ∃ C f ns, ns.map Prod.fst = fewL ms 20 ∧ e = .returned (.slice C ns.length f) ∧ w'.ownsRow w.heap.size 24 6 (.slice C ns.length f) ns.length (ns.flatMap cellsM) ∧ PtsOwn w' ns ∧ Below w.heap.size w w'
theorem PtsOwn.below {w w' : World} {ns : List MuA} (h : PtsOwn w ns) (hb : Below w.heap.size w w') : PtsOwn w' ns := fun q hq => ⟨(h q hq).1.below hb, (h q hq).2⟩
theorem PtsOwn.alloc {w : World} {ns : List MuA} (h : PtsOwn w ns) (o : Obj) : PtsOwn (w.alloc o) ns := fun q hq => ⟨(h q hq).1.alloc o, (h q hq).2⟩
theorem PtsOwn.grown {w w' : World} {base n : Nat} {v : Value} {xs : List Value} {ns : List MuA} (h : PtsOwn w ns) (hown : w.ownsRow base 24 6 v n xs) (hg : w.grownBy w' v.ownBlock) : PtsOwn w' ns := by
  refine fun q hq => ⟨(h q hq).1.keep fun b hb => hg.block b hb.lt ?_, (h q hq).2⟩
  intro e
  obtain ⟨_, h2⟩ := hown
  rcases h2 with ⟨rfl, _⟩ | ⟨q, cap, cs, rfl, _, hh, _⟩
  · cases e
  · injection e with e
    subst e
    obtain ⟨c1, r1, h1⟩ := hb
    rw [h1] at hh
    injection hh with hh
    injection hh with _ h3
    exact absurd h3 (by decide)
theorem PtsOwn.snoc {w : World} {ns : List MuA} (h : PtsOwn w ns) {q : MuA} (hq : Reads w 51 2 q.2.1 q.1.pts.length (q.1.pts.flatMap cellsP) ∧ q.1.pts.length ≤ 40) : PtsOwn w (ns ++ [q]) := by
  intro x hx
  rcases List.mem_append.1 hx with hx | hx
  · exact h x hx
  · obtain rfl := List.mem_singleton.1 hx
    exact hq
theorem PtsOwn.ptsIn {w : World} {ns : List MuA} (h : PtsOwn w ns) : PtsIn w ns := by
  intro i hi
  have hm : ns.getD i zMuA ∈ ns := by rw [List.getD_eq_getElem?_getD, List.getElem?_eq_getElem hi]; exact List.getElem_mem hi
  exact ⟨51, (h _ hm).1, by have := (h _ hm).2; omega⟩
theorem fewL_succ {ms : List MuA} {i : Nat} (h : i < ms.length) : fewL ms (i + 1) = fewL ms i ++ [ownM (ms.getD i zMuA).1] := by
  unfold fewL
  rw [List.take_succ_eq_append_getElem h, List.map_append, List.getD_eq_getElem?_getD, List.getElem?_eq_getElem h]
  rfl
theorem fewL_len {ms : List MuA} {k : Nat} : (fewL ms k).length ≤ k := by unfold fewL; simp; omega
set_option maxRecDepth 100000 in
set_option maxHeartbeats 2000000 in
theorem few_c (A : Option Addr) (n c : Nat) (ms : List MuA) (w : World) (h : MusIn w A n c ms) :
    Calls Try.prog 20 #[.slice A n c] w (RetFew ms w) := by
  obtain ⟨e1, hl, hz, hnc, hcm, hq⟩ := h
  obtain ⟨i0, hi0, hz0, hz1, hz2⟩ := info_parts3 mut_info
  have HI := hid (And.intro hi0 (And.intro hz0 (And.intro hz1 hz2)))
  have HZ := hid hz
  have HQ := hid hq
  have HL := hid hl
  have hcm : n ≤ 9223372036854775807 := by unfold maxLen at hcm; omega
  clear hz hq hl hi0 hz0 hz1 hz2 hnc
  go_enter Try.func20, Try.ntmps20
  go_wp2_with fail
  go_loopw [3, 8] (fun u3 u8 wr => ∃ (i : Nat) (ns : List MuA) (C : Option Addr) (f : Nat), i ≤ n ∧ u8 = .int .i64 (i : Nat) ∧ u3 = .slice C ns.length f ∧ Hid (ns.map Prod.fst = fewL ms (min i 20)) ∧ wr.ownsRow w.heap.size 24 6 (.slice C ns.length f) ns.length (ns.flatMap cellsM) ∧ PtsOwn wr ns ∧ Below w.heap.size w wr) (fun _ u8 _ => n - (intOf u8).toNat)
  case atStart => exact ⟨0, [], none, 0, Nat.zero_le _, rfl, rfl, hid rfl, World.ownsRow_nil _ _ _ _, fun q hq => absurd hq (by simp), Below.refl _ _⟩
  case round =>
    obtain ⟨i, ns, C, f, hi, rfl, rfl, hns, hown, hp, hb⟩ := hrel
    by_cases hlt : i < n
    · obtain ⟨q, hqe⟩ : ∃ q, q = ms.getD i zMuA := ⟨_, rfl⟩
      have hin : MuIn w q.1 q.2.1 q.2.2 := HQ.out q (by rw [hqe, List.getD_eq_getElem?_getD, List.getElem?_eq_getElem (by have := HL.out; omega)]; exact List.getElem_mem _)
      obtain ⟨m, B, cB⟩ := q
      obtain ⟨ad, rfl, c0, c1, c2, c3, c4, c5⟩ := mu_at (HZ.out.below hb) hlt (k := m.kind) (nm := m.name) (ep := m.eps) (fl := m.floor) (sc := m.scale) (pv := .slice B m.pts.length cB) (by rw [← hqe]; rfl)
      have HQE := hid hqe
      have HOWN := hid hown
      have HB := hid hb
      have HP := hid hp
      have HLT := hid hlt
      obtain ⟨ep1, hr1, hr2, hr3⟩ := hin
      have hltI : (i : Int) < (n : Int) := by omega
      by_cases h20 : i < 20
      · have HOC := hid (fun w' (h : Below w.heap.size w w') => own_c m B cB w' (hr1.below h) hr2 hr3)
        have h20I : (i : Int) < 20 := by omega
        have hln : ns.length = i := by
          have := congrArg List.length hns.out
          unfold fewL at this
          simp only [List.length_map, List.length_take] at this
          have := HL.out
          omega
        have HNS := hid (show (ns.map Prod.fst) ++ [ownM m] = fewL ms (min (i + 1) 20) by
          rw [hns.out, show min (i + 1) 20 = min i 20 + 1 by omega, show min i 20 = i by omega, fewL_succ (by have := HL.out; omega), ← HQE.out])
        have HLN := hid hln
        clear hr1 hr2 hr3 hqe hown hb hp hns hln
        go_wp2_with fail
        have KM := hid (Blk.new wr 24 (aM m.kind m.name m.eps m.floor m.scale (.slice B m.pts.length cB)))
        replace HB := hid (HB.out.alloc HB.out.size (.cells (aM m.kind m.name m.eps m.floor m.scale (.slice B m.pts.length cB)) 24))
        replace HOWN := hid (HOWN.out.alloc (.cells (aM m.kind m.name m.eps m.floor m.scale (.slice B m.pts.length cB)) 24))
        replace HP := hid (HP.out.alloc (.cells (aM m.kind m.name m.eps m.floor m.scale (.slice B m.pts.length cB)) 24))
        clear c0 c1 c2 c3 c4 c5
        refine (HOC.out _ HB.out).mono ?_
        rintro e w4 ⟨C4, f4, rfl, hb4, hown4⟩
        have h40 := own40 m
        obtain ⟨m2, hm2⟩ : ∃ m2, m2 = ownM m := ⟨_, rfl⟩
        rw [← hm2] at hown4 HNS h40 ⊢
        have hb5 := HB.out.trans (hb4.mono HB.out.size)
        have hown5 := (own_below HOWN.out hb4).alloc (.cells (aM m2.kind m2.name m2.eps m2.floor m2.scale (.slice C4 m2.pts.length f4)) 24)
        have hnew := six_new w4 (m2, C4, f4)
        have hp5 := ((HP.out.below hb4).snoc (q := (m2, C4, f4)) ⟨Reads.of_own hown4, h40⟩).alloc (.cells (aM m2.kind m2.name m2.eps m2.floor m2.scale (.slice C4 m2.pts.length f4)) 24)
        have hb6 := hb5.alloc hb5.size (.cells (aM m2.kind m2.name m2.eps m2.floor m2.scale (.slice C4 m2.pts.length f4)) 24)
        clear HOC HP HOWN HB hb4 hown4 KM hm2 hb5
        go_wp2_with (at_builtin; refine wpList_append_any _ rfl (.tmp 15) (.tmp 18) 38 rfl w.heap.size 24 i0 (.agg zMuC) 6 72 Try.underlying38 HI.out.1 HI.out.2.1 HI.out.2.2.1 HI.out.2.2.2 rfl (by decide) _ ns.length (ns.flatMap cellsM) rfl hown5 (some ⟨w4.heap.size, 0, none⟩) 1 1 (cellsM (m2, C4, f4)) rfl hnew (cellsM_one _) (by have := HLN.out; simp only [maxLen]; omega) (by have := HLN.out; omega) hb6.size ?_; intro v' w' hown' hg' hv')
        obtain ⟨C', f', rfl, _, _⟩ := own_form hown'
        have hb7 := hb6.grown hg' hb6.size (fun b hb => (hown5.lt b hb).1)
        have hp7 := hp5.grown hown5 hg'
        rw [← cellsM_snoc] at hown'
        have HNN := hid (show (ns ++ [(m2, C4, f4)]).length = ns.length + 1 by simp)
        rw [← HNN.out] at hown' ⊢
        have HX := hid (And.intro hown' (And.intro hp7 hb7))
        clear hown5 hp5 hb6 hnew hg' hv' hb7 hp7 hown' h40
        go_wp2_with fail
        go_roundw
        case rel => exact ⟨i + 1, ns ++ [(m2, C4, f4)], C', f', by omega, by go_num, rfl, hid (by rw [List.map_append]; exact HNS.out), HX.out.1, HX.out.2.1, HX.out.2.2⟩
        case measure => simp [intOf]; omega
      · have h20I : ¬ ((i : Int) < 20) := by omega
        have HNS := hid (show ns.map Prod.fst = fewL ms (min (i + 1) 20) by rw [hns.out, show min (i + 1) 20 = min i 20 by omega])
        replace HB := hid (HB.out.alloc HB.out.size (.cells (aM m.kind m.name m.eps m.floor m.scale (.slice B m.pts.length cB)) 24))
        replace HOWN := hid (HOWN.out.alloc (.cells (aM m.kind m.name m.eps m.floor m.scale (.slice B m.pts.length cB)) 24))
        replace HP := hid (HP.out.alloc (.cells (aM m.kind m.name m.eps m.floor m.scale (.slice B m.pts.length cB)) 24))
        clear hr1 hr2 hr3 hqe hown hb hp hns
        go_wp2_with fail
        go_roundw
        case rel => exact ⟨i + 1, ns, C, f, by omega, by go_num, rfl, HNS, HOWN.out, HP.out, HB.out⟩
        case measure => simp [intOf]; omega
    · obtain rfl : i = n := by omega
      have HF := hid (show RetFew ms w (.returned (.slice C ns.length f)) wr from ⟨C, f, ns, by
        rw [hns.out]
        unfold fewL
        by_cases h : i ≤ 20
        · rw [show min i 20 = i by omega, List.take_of_length_le (by rw [HL.out]; exact Nat.le_refl _), List.take_of_length_le (by rw [HL.out]; exact h)]
        · rw [show min i 20 = 20 by omega], rfl, hown, hp, hb⟩)
      clear hlt hown hb hns hp
      go_wp2_with fail
      go_ret
      exact HF.out
end Go.Proofs.Ytedojdbihajnbaa
