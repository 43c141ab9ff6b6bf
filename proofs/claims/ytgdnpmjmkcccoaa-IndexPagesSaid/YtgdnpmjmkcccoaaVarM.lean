/- Contracts of the laws of vary: slices.Clone, head, kept. -/
import Derived.Test.YtgdnpmjmkcccoaaVarL
import Derived.Laws.Small
import Derived.Lib.SliceRun
namespace Go.Proofs.Ytgdnpmjmkcccoaa
open Go.RowKit Go.Shelf VB
set_option linter.unusedVariables false
theorem nil_reads {w : World} {e : TypeId} {n : Nat} {xs : List Value} (h : Reads w e 1 none n xs) : n = 0 ∧ xs = [] := by
  rcases Nat.eq_zero_or_pos n with h0 | h0
  · exact ⟨h0, List.eq_nil_of_length_eq_zero (by rw [h.1, h0])⟩
  · obtain ⟨ad, h, _⟩ := h.2 h0
    cases h
theorem own_empty (w : World) (e : TypeId) : (w.alloc (.cells #[] e)).ownsRow w.heap.size e 1 (.slice (some ⟨w.heap.size, 0, none⟩) 0 0) 0 [] :=
  ⟨rfl, .inr ⟨w.heap.size, 0, #[], rfl, Nat.le_refl _, heap_alloc_new w _, Nat.le_refl _, Nat.zero_le _, rfl, rfl⟩⟩
/-- append of a row that lies in a block of whatever elements -/
theorem wpList_append_anyE {P : Program} (w : World) {ops : Array Oper} {rest : List Oper} {o : Oper} {a : Act} {Q : Exit → Act → World → Prop} (hgd : o.guard = none) (s x : Operand) (t : TypeId)
    (ho : o.op = .call { callee := .builtin .append, args := #[s, x], argTypes := #[t, t] })
    (base : Nat) (e : TypeId) (i : TypeInfo) (z : Value) (bytes : Nat) (ht : P.underlying t = some (.slice e)) (hi : P.info? e = some i) (hz : i.zero = some z)
    (hsize : i.size = 1) (hby : i.bytes = bytes) (hzs : z.cells.size = 1)
    (v : Value) (n : Nat) (xs : List Value) (hs : a.eval s = v) (hown : w.ownsRow base e 1 v n xs)
    (e' : TypeId) (ad : Addr) (m c : Nat) (news : List Value) (hx : a.eval x = .slice (some ad) m c) (hr : Reads w e' 1 (some ad) m news) (h1 : ∀ u ∈ news, u.oneCell' = true)
    (h63 : n + m ≤ maxLen) (hbytes : (n + m) * bytes ≤ 140737488355328) (hbase : base ≤ w.heap.size)
    (h : ∀ v' w', w'.ownsRow base e 1 v' (n + m) (xs ++ news) → w.grownBy w' v.ownBlock → wpList P ops Q rest (a.put o.dst v') w') : wpList P ops Q (o :: rest) a w := by
  refine wpList_append_own _ hgd s x t ho base e i z 1 bytes ht hi hz hsize hby hzs (by decide) v n xs hs hown ad m c news hx hr.1 ?_ h1 h63 hbytes hbase (fun v' w' h2 h3 _ => h v' w' h2 h3)
  intro j u hu
  rcases Nat.eq_zero_or_pos m with h0 | h0
  · subst h0
    have hn : news = [] := List.eq_nil_of_length_eq_zero (by simpa using hr.1)
    subst hn
    simp at hu
  · obtain ⟨ad', h, _, hc⟩ := hr.2 h0
    injection h with h
    subst h
    exact hc j u hu
theorem isNone_some' (a : Addr) : (some a).isNone = false := rfl
theorem isNone_none' : (none : Option Addr).isNone = true := rfl
set_option maxHeartbeats 400000 in
theorem clone_b {e' : TypeId} (A : Option Addr) (n c : Nat) (bs : List Nat) (w : World) (hb : Reads w e' 1 A n (bsV bs)) (hn : n ≤ 100000000) :
    Calls Try.prog 50 #[.slice A n c] w fun e w' => ∃ C f, e = .returned (.slice C n f) ∧ w'.ownsRow w.heap.size 5 1 (.slice C n f) n (bsV bs) ∧ Below w.heap.size w w' := by
  have q22 : ∀ (w : World) (a : Option Addr) (n c n' c' : Nat), (binOp .eql 31 (.slice a n c) (.slice none n' c')).run Try.prog w = .ok (.bool a.isNone) w := fun w a n c n' c' => Lib.run_eql_slice_nil w _ _ a n c n' c' Try.underlying31
  have HB := Lib.hid hb
  cases A with
  | none =>
    obtain ⟨rfl, h0⟩ := nil_reads hb
    rw [h0]
    clear hb h0
    go_enter Try.func50, Try.ntmps50
    go_wp2
    go_ret
    exact ⟨none, 0, rfl, World.ownsRow_nil _ _ _ _, Below.refl _ _⟩
  | some ad =>
    clear hb
    obtain ⟨i0, hi0, hz0, hz1, hz2⟩ := info_parts u8_info
    go_enter Try.func50, Try.ntmps50
    go_wp2_with (at_builtin; refine wpList_append_anyE _ rfl (.tmp 5) (.tmp 6) 31 rfl w.heap.size 5 i0 (.int .u8 0) 1 Try.underlying31 hi0 hz0 hz1 hz2 rfl _ 0 [] rfl (own_empty w 5) e' ad n c (bsV bs) rfl (HB.out.alloc _) (bsV_one bs) (by simp only [maxLen]; omega) (by omega) (by simp) ?_; intro v' w' hown' hg')
    rw [Nat.zero_add] at hown'
    obtain ⟨C, f, rfl, _, _⟩ := own_form hown'
    have hB : Below w.heap.size w w' := ((Below.refl _ w).alloc (Nat.le_refl _) _).grown hg' (by simp) (by intro k hk; cases hk; exact Nat.le_refl _)
    go_wp2
    go_ret
    exact ⟨C, f, rfl, by simpa using hown', hB⟩
theorem i64V_one (l : List Int) : ∀ v ∈ l.map (Value.int .i64), v.oneCell' = true := by simp [Value.oneCell']
end Go.Proofs.Ytgdnpmjmkcccoaa
