/- A region that draws its order, where what the loads read holds until one operation (the first store) has come. Manifest laws: own of law22 (printed by gen_own.py). The arguments of the Manifest laws opened (printed by gen_marg.py). Manifest laws: what Encode hands back; bytes; prefixes. Index: first (a halving), Find's two closures. Index: Find, At, Count. Plain laws: the pages that come for the first time, sorted, are what putting them one by one gives. Index: the pages of rows: what tells them. Index: Pages. law21: own: an index that came in, in memory of its own. slices.Grow of nil, slices.Concat at api.Entry. index: own (an index in memory of its own), Replace. index: Replace, of the first two entries. The document's put: a rising row with a number, once. The document's Pages. law21: wakes. IndexPages: the walk. IndexPages: the walk, from two indexes that came in. -/
import Derived.Test.YtgdnpmjmkcccoaaQManT
import Derived.Test.YtgdnpmjmkcccoaaPost
import Derived.Deep.SlicePairs
import Derived.Lib.SmallJoins
import Derived.ChangeArms
import Derived.OpenShut
import Derived.Test.YtgdnpmjmkcccoaaIdxC
import Derived.Scope
import Derived.WalkMore
import Derived.ScopeJumps
import Derived.Test.YtgdnpmjmkcccoaaNum
import Derived.Test.YtgdnpmjmkcccoaaManC
import Derived.Test.YtgdnpmjmkcccoaaShA
import Derived.Sort.OwnSortedInts
import Derived.Test.YtgdnpmjmkcccoaaManI
namespace Go.Proofs.Ytgdnpmjmkcccoaa
section
variable {P : Program} {ops : Array Oper} {Q : Exit → Act → World → Prop} {S : World → Prop} {t : Nat}
/-- whatever order comes: S holds as long as number t has not come -/
def AnyTill (P : Program) (ops : Array Oper) (Q : Exit → Act → World → Prop) (S : World → Prop) (t : Nat) : Nat → Array Bool → Act → World → Prop
  | 0, l, a, w => Region.ready .any ops l = [] ∧ Q .normal a w
  | k + 1, l, a, w => (Region.ready .any ops l = [] → Q .normal a w) ∧
    ∀ j ∈ Region.ready .any ops l, wpOp P ops Q j (fun a' w' => ((l.setIfInBounds j true).getD t true = false → S w') ∧ AnyTill P ops Q S t k (l.setIfInBounds j true) a' w') a w
theorem AnyTill.any : ∀ (k : Nat) (l : Array Bool) (a : Act) (w : World), AnyTill P ops Q S t k l a w → wpAny P .any ops Q k l a w
  | 0, _, _, _, h => h
  | k + 1, _, _, _, h => ⟨h.1, fun j hj => wpOp_mono (fun _ _ h2 => AnyTill.any k _ _ _ h2.2) (h.2 j hj)⟩
theorem AnyTill.begin {id : Nat} {a : Act} {w : World} (hm : P.follows .mixedOrders = true) (hS : S w.drew) (h : S w.drew → AnyTill P ops Q S t ops.size (Array.replicate ops.size false) a w.drew) : (Code.region id ops true).wp P Q a w :=
  wp_region_any hm (AnyTill.any _ _ _ _ (h hS))
/-- t waits for i -/
def waitsB (ops : Array Oper) (t i : Nat) : Bool := ((ops[t]?).map fun o => o.after.any fun e => Region.binds .any e && e.on == i).getD false
theorem waits_not {i j : Nat} {oj : Oper} (hw : waitsB ops t i = true) (hj : ops[j]? = some oj) (hn : ∀ e ∈ oj.after, Region.binds .any e = true → e.on ≠ i) : j ≠ t := by
  rintro rfl
  unfold waitsB at hw
  rw [hj] at hw
  simp only [Option.map_some, Option.getD_some, Array.any_eq_true] at hw
  obtain ⟨n, hn1, hn2⟩ := hw
  simp only [Bool.and_eq_true, beq_iff_eq] at hn2
  exact hn _ (Array.getElem_mem hn1) hn2.1 hn2.2
theorem AnyTill.first {i : Nat} {oi : Oper} {v : Value} (hi : ops[i]? = some oi) (hsel : ∀ (j : Nat) (o : Oper) cs b, ops[j]? = some o → o.op ≠ .select cs b) (hw : waitsB ops t i = true) (hit : i ≠ t)
    (hQ : ∀ c a w, Q (.panic c) (a.put oi.dst v) w → Q (.panic c) a w) : ∀ (k : Nat) (l : Array Bool) (a : Act) (w : World), l.getD t true = false →
      (∀ j oj, ops[j]? = some oj → j ≠ i → l.getD j true = false → (∀ e ∈ oj.after, Region.binds .any e = true → e.on ≠ i) → oi.apart ops oj = true) →
      i ∈ Region.ready .any ops l → YieldsIf P ops S oi v a → S w → AnyTill P ops Q S t k (l.setIfInBounds i true) (a.put oi.dst v) w → AnyTill P ops Q S t (k + 1) l a w := by
  intro k
  induction k with
  | zero =>
    intro l a w hlt _ hr hy hS H
    refine ⟨fun h => (by rw [h] at hr; cases hr), fun j hj => ?_⟩
    by_cases hji : j = i
    · subst hji
      exact hy.wpOp hi hS ⟨fun _ => hS, H⟩
    · have h := ready_mono hj hji
      rw [H.1] at h
      cases h
  | succ k ih =>
    intro l a w hlt hfree hr hy hS H
    refine ⟨fun h => (by rw [h] at hr; cases hr), fun j hj => ?_⟩
    by_cases hji : j = i
    · subst hji
      exact hy.wpOp hi hS ⟨fun _ => hS, H⟩
    · obtain ⟨hju, oj, hoj, hall⟩ := mem_ready.1 hj
      have hnot : ∀ e ∈ oj.after, Region.binds .any e = true → e.on ≠ i := by
        intro e he hb heq
        have h1 := hall e he hb
        have h0 := (mem_ready.1 hr).1
        rw [heq] at h1
        rcases Nat.lt_or_ge i l.size with h' | h'
        · simp [h'] at h0 h1; rw [h0] at h1; cases h1
        · simp [Array.getElem?_eq_none h'] at h1
      have hjt : j ≠ t := waits_not hw hoj hnot
      have h2 := wpOp_putIf hoj (hfree j oj hoj hji hju hnot) (fun cs b => hsel i oi cs b hi) (fun cs b => hsel j oj cs b hoj) hQ hy (H.2 j (ready_mono hj hji))
      have hlt2 : (l.setIfInBounds j true).getD t true = false := by rw [getD_set_ne true hjt]; exact hlt
      have hlt3 : ((l.setIfInBounds i true).setIfInBounds j true).getD t true = false := by rw [getD_set_ne true hjt, getD_set_ne true hit]; exact hlt
      refine wpOp_mono (fun a' w' h3 => ⟨fun _ => h3.2.1 hlt3, ih (l.setIfInBounds j true) a' w' hlt2 ?_ (ready_mono hr (Ne.symm hji)) h3.1 (h3.2.1 hlt3) (by rw [Array.setIfInBounds_comm _ _ hji]; exact h3.2.2)⟩) h2
      intro m om hm hmi hun hno
      refine hfree m om hm hmi ?_ hno
      by_cases hjm : j = m
      · subst hjm; exact hju
      · rw [getD_set_ne true hjm] at hun; exact hun
theorem AnyTill.take {i : Nat} {oi : Oper} {v : Value} {k : Nat} {l : Array Bool} {a : Act} {w : World} (hi : ops[i]? = some oi) (hs : Region.noSelect ops = true) (hf : Region.free .any ops l i = true) (hr : (Region.ready .any ops l).contains i = true)
    (hw : (waitsB ops t i && (i != t)) = true) (hlt : l.getD t true = false) (hQ : ∀ c a w, Q (.panic c) (a.put oi.dst v) w → Q (.panic c) a w) (hy : YieldsIf P ops S oi v a) (hS : S w)
    (h : AnyTill P ops Q S t k (l.setIfInBounds i true) (a.put oi.dst v) w) : AnyTill P ops Q S t (k + 1) l a w := by
  simp only [Bool.and_eq_true, bne_iff_ne] at hw
  exact AnyTill.first hi (Region.noSelect_spec hs) hw.1 hw.2 hQ k l a w hlt (Region.free_spec hi hf) (by simpa using hr) hy hS h
/-- what yields in whatever world need not be waited for -/
theorem AnyTill.firstP {i : Nat} {oi : Oper} {v : Value} (hi : ops[i]? = some oi) (hsel : ∀ (j : Nat) (o : Oper) cs b, ops[j]? = some o → o.op ≠ .select cs b) (hit : i ≠ t)
    (hQ : ∀ c a w, Q (.panic c) (a.put oi.dst v) w → Q (.panic c) a w) : ∀ (k : Nat) (l : Array Bool) (a : Act) (w : World),
      (∀ j oj, ops[j]? = some oj → j ≠ i → l.getD j true = false → (∀ e ∈ oj.after, Region.binds .any e = true → e.on ≠ i) → oi.apart ops oj = true) →
      i ∈ Region.ready .any ops l → YieldsIf P ops (fun _ => True) oi v a → (l.getD t true = false → S w) → AnyTill P ops Q S t k (l.setIfInBounds i true) (a.put oi.dst v) w → AnyTill P ops Q S t (k + 1) l a w := by
  intro k
  induction k with
  | zero =>
    intro l a w hfree hr hy hS H
    refine ⟨fun h => (by rw [h] at hr; cases hr), fun j hj => ?_⟩
    by_cases hji : j = i
    · subst hji
      exact hy.wpOp hi trivial ⟨fun h => hS (by rw [getD_set_ne true hit] at h; exact h), H⟩
    · have h := ready_mono hj hji
      rw [H.1] at h
      cases h
  | succ k ih =>
    intro l a w hfree hr hy hS H
    refine ⟨fun h => (by rw [h] at hr; cases hr), fun j hj => ?_⟩
    by_cases hji : j = i
    · subst hji
      exact hy.wpOp hi trivial ⟨fun h => hS (by rw [getD_set_ne true hit] at h; exact h), H⟩
    · obtain ⟨hju, oj, hoj, hall⟩ := mem_ready.1 hj
      have hnot : ∀ e ∈ oj.after, Region.binds .any e = true → e.on ≠ i := by
        intro e he hb heq
        have h1 := hall e he hb
        have h0 := (mem_ready.1 hr).1
        rw [heq] at h1
        rcases Nat.lt_or_ge i l.size with h' | h'
        · simp [h'] at h0 h1; rw [h0] at h1; cases h1
        · simp [Array.getElem?_eq_none h'] at h1
      have h2 := wpOp_putIf hoj (hfree j oj hoj hji hju hnot) (fun cs b => hsel i oi cs b hi) (fun cs b => hsel j oj cs b hoj) hQ hy (H.2 j (ready_mono hj hji))
      have hS2 : ∀ w' : World, (((l.setIfInBounds i true).setIfInBounds j true).getD t true = false → S w') → ((l.setIfInBounds j true).getD t true = false → S w') := fun w' h3 h => h3 (by rw [← Array.setIfInBounds_comm _ _ hji, getD_set_ne true hit]; exact h)
      refine wpOp_mono (fun a' w' h3 => ⟨hS2 w' h3.2.1, ih (l.setIfInBounds j true) a' w' ?_ (ready_mono hr (Ne.symm hji)) h3.1 (hS2 w' h3.2.1) (by rw [Array.setIfInBounds_comm _ _ hji]; exact h3.2.2)⟩) h2
      intro m om hm hmi hun hno
      refine hfree m om hm hmi ?_ hno
      by_cases hjm : j = m
      · subst hjm; exact hju
      · rw [getD_set_ne true hjm] at hun; exact hun
theorem AnyTill.takeP {i : Nat} {oi : Oper} {v : Value} {k : Nat} {l : Array Bool} {a : Act} {w : World} (hi : ops[i]? = some oi) (hs : Region.noSelect ops = true) (hf : Region.free .any ops l i = true) (hr : (Region.ready .any ops l).contains i = true)
    (hw : (i != t) = true) (hQ : ∀ c a w, Q (.panic c) (a.put oi.dst v) w → Q (.panic c) a w) (hy : YieldsIf P ops (fun _ => True) oi v a) (hS : l.getD t true = false → S w)
    (h : AnyTill P ops Q S t k (l.setIfInBounds i true) (a.put oi.dst v) w) : AnyTill P ops Q S t (k + 1) l a w := by
  simp only [bne_iff_ne] at hw
  exact AnyTill.firstP hi (Region.noSelect_spec hs) hw hQ k l a w (Region.free_spec hi hf) (by simpa using hr) hy hS h
theorem AnyTill.one {j : Nat} {o : Oper} {k : Nat} {l : Array Bool} {a : Act} {w : World} (hr : Region.ready .any ops l = [j]) (ho : ops[j]? = some o)
    (h : ∀ K' : Act → World → Prop, Shut (∀ a w, ((l.setIfInBounds j true).getD t true = false → S w) → AnyTill P ops Q S t k (l.setIfInBounds j true) a w → K' a w) → if Region.wanted o (yielded ops a.tmps) = true then Oper.wp P o a w K' Q else K' (a.put o.dst undef) w) : AnyTill P ops Q S t (k + 1) l a w := by
  refine ⟨fun h => (by rw [h] at hr; cases hr), fun j' hj => ?_⟩
  rw [hr] at hj
  obtain rfl := List.mem_singleton.1 hj
  exact wpOp_step ho fun K' hK => h K' fun a w h1 h2 => hK a w ⟨h1, h2⟩
theorem AnyTill.done {l : Array Bool} {a : Act} {w : World} (hr : Region.ready .any ops l = []) (h : Q .normal a w) : ∀ k, AnyTill P ops Q S t k l a w
  | 0 => ⟨hr, h⟩
  | _ + 1 => ⟨fun _ => h, by rw [hr]; simp⟩
end
end Go.Proofs.Ytgdnpmjmkcccoaa
namespace Go.Proofs.Ytgdnpmjmkcccoaa
open Go.RowKit Go.Shelf VB
open Go.Lib (hid)
set_option linter.unusedVariables false
set_option linter.unusedSimpArgs false
theorem cellsNs_one (l : List EnA) : ∀ v ∈ l.flatMap cellsN, v.oneCell' = true := by
  intro v hv
  obtain ⟨q, _, hq⟩ := List.mem_flatMap.1 hv
  exact cellsN_one q v hq
theorem ints_one (l : List Int) : ∀ v ∈ l.map (Value.int .i64), v.oneCell' = true := by
  intro v hv
  obtain ⟨q, _, rfl⟩ := List.mem_map.1 hv
  rfl
set_option maxHeartbeats 400000 in
theorem clone_e {e' : TypeId} (A : Option Addr) (n c : Nat) (l : List EnA) (w : World) (hb : Reads w e' 5 A n (l.flatMap cellsN)) (hn : n ≤ 100000000) :
    Calls Try.prog 36 #[.slice A n c] w fun e w' => ∃ C f, e = .returned (.slice C n f) ∧ w'.ownsRow w.heap.size 45 5 (.slice C n f) n (l.flatMap cellsN) ∧ Below w.heap.size w w' := by
  have q22 : ∀ (w : World) (a : Option Addr) (n c n' c' : Nat), (binOp .eql 39 (.slice a n c) (.slice none n' c')).run Try.prog w = .ok (.bool a.isNone) w := fun w a n c n' c' => Lib.run_eql_slice_nil w _ _ a n c n' c' Try.underlying39
  have HB := Lib.hid hb
  cases A with
  | none =>
    obtain ⟨rfl, h0⟩ := nil_readsS hb
    rw [h0]
    clear hb h0
    go_enter Try.func36, Try.ntmps36
    go_wp2
    go_ret
    exact ⟨none, 0, rfl, World.ownsRow_nil _ _ _ _, Below.refl _ _⟩
  | some ad =>
    clear hb
    obtain ⟨i0, hi0, hz0, hz1, hz2⟩ := info_parts3 entry_info
    go_enter Try.func36, Try.ntmps36
    go_wp2_with (at_builtin; refine wpList_append_anyS _ rfl (.tmp 5) (.tmp 6) 39 rfl w.heap.size 45 i0 (.agg zEn) 5 56 Try.underlying39 hi0 hz0 hz1 hz2 rfl (by decide) _ 0 [] rfl (own_emptyS w 45 5) e' ad n c (l.flatMap cellsN) rfl (HB.out.alloc _) (cellsNs_one l) (by simp only [maxLen]; omega) (by omega) (by simp) ?_; intro v' w' hown' hg')
    rw [Nat.zero_add] at hown'
    obtain ⟨C, f, rfl, _, _⟩ := own_form hown'
    have hB : Below w.heap.size w w' := ((Below.refl _ w).alloc (Nat.le_refl _) _).grown hg' (by simp) (by intro k hk; cases hk; exact Nat.le_refl _)
    go_wp2
    go_ret
    exact ⟨C, f, rfl, by simpa using hown', hB⟩
set_option maxHeartbeats 400000 in
theorem clone_n {e' : TypeId} (A : Option Addr) (n c : Nat) (l : List Int) (w : World) (hb : Reads w e' 1 A n (l.map (Value.int .i64))) (hn : n ≤ 100000000) :
    Calls Try.prog 38 #[.slice A n c] w fun e w' => ∃ C f, e = .returned (.slice C n f) ∧ w'.ownsRow w.heap.size 3 1 (.slice C n f) n (l.map (Value.int .i64)) ∧ Below w.heap.size w w' := by
  have q22 : ∀ (w : World) (a : Option Addr) (n c n' c' : Nat), (binOp .eql 43 (.slice a n c) (.slice none n' c')).run Try.prog w = .ok (.bool a.isNone) w := fun w a n c n' c' => Lib.run_eql_slice_nil w _ _ a n c n' c' Try.underlying43
  have HB := Lib.hid hb
  cases A with
  | none =>
    obtain ⟨rfl, h0⟩ := nil_readsS hb
    rw [h0]
    clear hb h0
    go_enter Try.func38, Try.ntmps38
    go_wp2
    go_ret
    exact ⟨none, 0, rfl, World.ownsRow_nil _ _ _ _, Below.refl _ _⟩
  | some ad =>
    clear hb
    obtain ⟨i0, hi0, hz0, hz1, hz2⟩ := info_parts3 int_info2
    go_enter Try.func38, Try.ntmps38
    go_wp2_with (at_builtin; refine wpList_append_anyS _ rfl (.tmp 5) (.tmp 6) 43 rfl w.heap.size 3 i0 (.int .i64 0) 1 8 Try.underlying43 hi0 hz0 hz1 hz2 rfl (by decide) _ 0 [] rfl (own_emptyS w 3 1) e' ad n c (l.map (Value.int .i64)) rfl (HB.out.alloc _) (ints_one l) (by simp only [maxLen]; omega) (by omega) (by simp) ?_; intro v' w' hown' hg')
    rw [Nat.zero_add] at hown'
    obtain ⟨C, f, rfl, _, _⟩ := own_form hown'
    have hB : Below w.heap.size w w' := ((Below.refl _ w).alloc (Nat.le_refl _) _).grown hg' (by simp) (by intro k hk; cases hk; exact Nat.le_refl _)
    go_wp2
    go_ret
    exact ⟨C, f, rfl, by simpa using hown', hB⟩
theorem take_cellsN (l : List EnA) (k : Nat) : (l.flatMap cellsN).take (k * 5) = (l.take k).flatMap cellsN := by
  induction l generalizing k with
  | nil => simp
  | cons x l ih =>
    cases k with
    | zero => simp
    | succ k =>
      rw [List.take_succ_cons, List.flatMap_cons, List.flatMap_cons, ← ih k, show (k + 1) * 5 = (cellsN x).length + k * 5 by simp only [cellsN, List.length_cons, List.length_nil]; omega, List.take_length_add_append]
theorem own_put {w : World} {base n f size : Nat} {e : TypeId} {ad : Addr} {xs : List Value} (h : w.ownsRow base e size (.slice (some ad) n f) n xs) {k r : Nat} (hk : k * size + r < n * size) (u : Value) :
    (w.setCell ⟨(ad.add (k * size)).block, (ad.add (k * size)).off + r, none⟩ u).ownsRow base e size (.slice (some ad) n f) n (xs.set (k * size + r) u) ∧ w.frozen? ⟨(ad.add (k * size)).block, (ad.add (k * size)).off + r, none⟩ = false ∧ ad.block < w.heap.size ∧ base ≤ ad.block ∧ (ad.add (k * size)).block = ad.block ∧ (∀ v, xs[k * size + r]? = some v → w.cell? ⟨(ad.add (k * size)).block, (ad.add (k * size)).off + r, none⟩ = some v) := by
  obtain ⟨h1, h2⟩ := h
  rcases h2 with ⟨h2, _⟩ | ⟨g, cap, cur, h2, hb, hg, hn, hc, hs, ht⟩
  · cases h2
  · injection h2 with h3 h4 h5
    injection h3 with h3
    subst h3
    have ha : (⟨g, 0, none⟩ : Addr).add (k * size) = ⟨g, k * size, none⟩ := by rw [Addr.add_lit]; simp
    rw [ha]
    have hB : Blk w g e cur := hg
    refine ⟨⟨by rw [List.length_set]; exact h1, .inr ⟨g, cap, cur.setIfInBounds (k * size + r) u, by rw [h5], hb, hB.set_ _ u, hn, hc, by simpa using hs, ?_⟩⟩, hB.frozen _, hB.lt, hb, rfl, fun v hv => ?_⟩
    · rw [Array.toList_setIfInBounds, ← ht, List.take_set]
    · rw [hB.cell, ← Array.getElem?_toList]
      rw [← ht, List.getElem?_take_of_lt hk] at hv
      exact hv
theorem get_here (dn rest : List EnA) (e : EnA) : ((dn ++ e :: rest).flatMap cellsN)[dn.length * 5 + 3]? = some (.slice e.2.1 e.1.ps.length e.2.2) := by
  have hl : (dn.flatMap cellsN).length = dn.length * 5 := recs_len cellsN_len dn
  rw [List.flatMap_append, List.flatMap_cons, List.getElem?_append_right (by rw [hl]; omega), hl, show dn.length * 5 + 3 - dn.length * 5 = 3 by omega, List.getElem?_append_left (by rw [cellsN_len]; omega)]
  rfl
theorem set_here (dn rest : List EnA) (e e' : EnA) (u : Value) (h : (cellsN e).set 3 u = cellsN e') : ((dn ++ e :: rest).flatMap cellsN).set (dn.length * 5 + 3) u = ((dn ++ [e']) ++ rest).flatMap cellsN := by
  rw [List.flatMap_append, List.flatMap_cons, List.flatMap_append, List.flatMap_append, List.flatMap_singleton, ← h]
  have hl : (dn.flatMap cellsN).length = dn.length * 5 := recs_len cellsN_len dn
  rw [List.set_append_right _ _ (by rw [hl]; omega), hl, show dn.length * 5 + 3 - dn.length * 5 = 3 by omega, List.set_append_left _ _ (by rw [cellsN_len]; omega), List.append_assoc]
theorem RoFr.set {w : World} {x : RoA} (h : RoFr w x) {g i : Nat} {t : TypeId} {cs : Array Value} (k : Blk w g t cs) (ht : t ≠ 45 ∧ t ≠ 3 ∧ t ≠ 47) (u : Value) : RoFr (w.setCell ⟨g, i, none⟩ u) x := by
  refine h.keep fun b t' hb ht' => Below.heap_setCell _ _ _ b ?_
  rintro rfl
  obtain ⟨c1, r1, h1⟩ := hb
  unfold Blk at k
  rw [k] at h1
  injection h1 with h1
  injection h1 with _ h3
  subst h3
  rcases ht' with h | h | h
  · exact ht.1 h
  · exact ht.2.1 h
  · exact ht.2.2 h
/-- a manifest that came in -/
structure RoArg (w : World) (x : RoA) : Prop where
  en : ∃ e, Reads w e 5 x.ea x.en.length (x.en.flatMap cellsN)
  enc : x.en.length ≤ x.ec ∧ x.ec ≤ maxLen
  ens : ∀ e ∈ x.en, (∃ t, Reads w t 1 e.2.1 e.1.ps.length (e.1.ps.map (Value.int .i64))) ∧ (e.1.ps.length ≤ e.2.2 ∧ e.2.2 ≤ maxLen) ∧ e.1.fs ≤ 9223372036854775807
  op : ∃ e, Reads w e 2 x.oa x.op.length (x.op.flatMap cellsP)
  opc : x.op.length ≤ x.oc ∧ x.oc ≤ maxLen
structure MArg (w : World) (A : Option Addr) (n c : Nat) (l : List RoA) : Prop where
  rows : ∃ e, Reads w e 7 A n (l.flatMap cellsR)
  each : ∀ x ∈ l, RoArg w x
  hn : n ≤ c
  hc : c ≤ maxLen
theorem RoArg.below {w w' : World} {x : RoA} (h : RoArg w x) (hb : Below w.heap.size w w') : RoArg w' x :=
  ⟨h.en.elim fun e k => ⟨e, k.below hb⟩, h.enc, fun e he => ⟨(h.ens e he).1.elim fun t k => ⟨t, k.below hb⟩, (h.ens e he).2⟩, h.op.elim fun e k => ⟨e, k.below hb⟩, h.opc⟩
def ownEn (e : En) : En := ⟨e.fs, e.ls, e.ct, e.by_, e.ps.take 40⟩
def ownRo (x : Ro) : Ro := ⟨x.nm.extract 0 (min x.nm.size 20), x.ep, x.fl, x.la, x.sc, (x.en.take 20).map ownEn, x.op.take 40⟩
def ownL (l : List Ro) (k : Nat) : List Ro := (l.take k).map ownRo
def RetOwn22 (l : List Ro) (w : World) (d : Ending) (w' : World) : Prop := ∃ (ns : List RoA) (C : Option Addr) (f : Nat), ns.map RoA.d = ownL l 9 ∧ d = .returned (.agg #[.slice C ns.length f]) ∧ w'.ownsRow w.heap.size 42 7 (.slice C ns.length f) ns.length (ns.flatMap cellsR) ∧ (∀ x ∈ ns, RoFr w' x) ∧ Below w.heap.size w w'
theorem grown_on {a w w' : World} {row : Option Nat} (h : a.grownBy w row) (hb : Below w.heap.size w w') : a.grownBy w' row :=
  ⟨hb.os.trans h.os, hb.tape.trans h.tape, hb.output.trans h.output, Nat.le_trans h.size hb.size, fun k hk hn => (hb.block k (Nat.lt_of_lt_of_le hk h.size)).trans (h.block k hk hn)⟩
theorem grown_set {a w : World} {row : Option Nat} (h : a.grownBy w row) {p : Addr} (hp : row = some p.block) (u : Value) : a.grownBy (w.setCell p u) row :=
  ⟨h.os, h.tape, h.output, by simpa using h.size, fun k hk hn => (Below.heap_setCell w p u k (fun e => hn (by rw [e, hp]))).trans (h.block k hk hn)⟩
theorem own_typedE {w : World} {base n f size : Nat} {e : TypeId} {ad : Addr} {xs : List Value} (h : w.ownsRow base e size (.slice (some ad) n f) n xs) : Typed w ad.block e := by
  obtain ⟨_, h2⟩ := h
  rcases h2 with ⟨h2, _⟩ | ⟨g, cap, cur, h2, hb, hg, _⟩
  · cases h2
  · injection h2 with h3 _ _
    injection h3 with h3
    subst h3
    exact ⟨_, _, hg⟩
theorem take_min' {α : Type} (l : List α) (k : Nat) : l.take (min l.length k) = l.take k := by
  by_cases h : l.length ≤ k
  · rw [Nat.min_eq_left h, List.take_of_length_le (Nat.le_refl _), List.take_of_length_le h]
  · rw [Nat.min_eq_right (by omega)]
theorem own_ne3 {w : World} {b1 b2 e t s1 s2 n1 n2 : Nat} {v1 v2 : Value} {xs ys : List Value} (h1 : w.ownsRow b1 e s1 v1 n1 xs) (h2 : w.ownsRow b2 t s2 v2 n2 ys) (hne : e ≠ t) : v1.ownBlock = none ∨ v1.ownBlock ≠ v2.ownBlock := by
  rcases h1.2 with ⟨rfl, _⟩ | ⟨g, cap, cur, rfl, _, hg, _⟩
  · exact .inl rfl
  · rcases h2.2 with ⟨rfl, _⟩ | ⟨g2, cap2, cur2, rfl, _, hg2, _⟩
    · exact .inr (by simp [Value.ownBlock])
    · right
      intro h
      injection h with h
      have h3 : g = g2 := h
      subst h3
      rw [hg] at hg2
      injection hg2 with hg2
      injection hg2 with _ h4
      exact hne h4
theorem own_succ {l : List Ro} {i : Nat} {x : Ro} (h : l[i]? = some x) : ownL l (i + 1) = ownL l i ++ [ownRo x] := by
  unfold ownL
  rw [List.take_succ_eq_append_getElem (List.getElem?_eq_some_iff.1 h).1, List.map_append, (List.getElem?_eq_some_iff.1 h).2]
  rfl
theorem own_all {l : List Ro} {i : Nat} (h : l.length = i) (h9 : i ≤ 9) : ownL l i = ownL l 9 := by
  unfold ownL
  rw [List.take_of_length_le (by omega), List.take_of_length_le (by omega)]
theorem own_fin {l : List Ro} {w W : World} {ns : List RoA} {C : Option Addr} {f b : Nat} {cs : Array Value} (hk : Blk W (w.heap.size + 1) 24 cs) (ho : W.ownsRow b 42 7 (.slice C ns.length f) ns.length (ns.flatMap cellsR)) (hf : ∀ x ∈ ns, RoFr W x) (hb : Below w.heap.size w W) (h3 : b = w.heap.size + 3) (hn : ns.map RoA.d = ownL l 9) :
    RetOwn22 l w (.returned (.agg #[.slice C ns.length f])) (W.setCell ⟨w.heap.size + 1, 0, none⟩ (.slice C ns.length f)) :=
  ⟨ns, C, f, hn, rfl, own_low (own_farM ho (a := ⟨w.heap.size + 1, 0, none⟩) (by simp; omega) _) (by omega), fun x hx => (hf x hx).set hk (by decide) _, hb.setCell (p := ⟨w.heap.size + 1, 0, none⟩) (by simp) _⟩
set_option maxRecDepth 100000 in
set_option maxHeartbeats 8000000 in
theorem own_22 (A : Option Addr) (n c : Nat) (rows : List RoA) (w : World) (h : MArg w A n c rows) :
    Calls Try.prog 11 #[.agg #[.slice A n c]] w (RetOwn22 (rows.map RoA.d) w) := by
  obtain ⟨i0, hi0, hz0, hz1, hz2⟩ := info_parts3 row_info
  have HI := hid (And.intro hi0 (And.intro hz0 (And.intro hz1 hz2)))
  obtain ⟨w3, hw3⟩ : ∃ w3, w3 = ((w.alloc (.cells #[.slice A n c] 24)).alloc (.cells #[.slice none 0 0] 24)).alloc (.cells #[.slice none 0 0] 24) := ⟨_, rfl⟩
  have hs3 : w3.heap.size = w.heap.size + 3 := by rw [hw3]; simp
  have k0 : w3.cell? ⟨w.heap.size, 0, none⟩ = some (.slice A n c) := by rw [hw3]; exact (((Blk.new w 24 #[.slice A n c]).alloc _).alloc _).cell 0
  have HB3 := hid (show Below w.heap.size w w3 by rw [hw3]; exact (((Below.refl _ _).alloc (Nat.le_refl _) _).alloc (by simp) _).alloc (by simp; omega) _)
  have K1 := hid (show Blk w3 (w.heap.size + 1) 24 #[.slice none 0 0] by rw [hw3]; exact (Blk.new_at _ _ _ (by simp)).alloc _)
  have K2 := hid (show Blk w3 (w.heap.size + 1 + 1) 24 #[.slice none 0 0] by rw [hw3]; exact Blk.new_at _ _ _ (by simp))
  have HM := hid h
  have hln : rows.length = n := by obtain ⟨e, hr⟩ := h.rows; have := hr.1; rw [recs_len cellsR_len] at this; omega
  have HLN := hid hln
  have hnm : n ≤ 9223372036854775807 := by have := h.hn; have := h.hc; unfold maxLen at this; omega
  clear hi0 hz0 hz1 hz2 h hln
  rw [hw3] at k0
  go_enter Try.func11, Try.ntmps11
  go_wp2_with fail
  rw [← hw3]
  clear k0 hw3
  go_loopw [11] (fun u11 wr => ∃ (i : Nat) (ns : List RoA) (C : Option Addr) (f : Nat), i ≤ n ∧ i ≤ 9 ∧ u11 = .int .i64 (i : Nat) ∧ Hid (Blk wr (w.heap.size + 1) 24 #[.slice none 0 0] ∧ Blk wr (w.heap.size + 1 + 1) 24 #[.slice C ns.length f] ∧ wr.ownsRow w3.heap.size 42 7 (.slice C ns.length f) ns.length (ns.flatMap cellsR) ∧ (∀ x ∈ ns, RoFr wr x)) ∧ Hid ((Below w.heap.size w wr ∧ w3.heap.size ≤ wr.heap.size) ∧ ns.map RoA.d = ownL (rows.map RoA.d) i)) (fun u11 _ => n - (intOf u11).toNat)
  case atStart => exact ⟨0, [], none, 0, Nat.zero_le _, Nat.zero_le _, rfl, hid ⟨K1.out, K2.out, World.ownsRow_nil _ _ _ _, fun x hx => absurd hx (by simp)⟩, hid ⟨⟨HB3.out, Nat.le_refl _⟩, rfl⟩⟩
  case round =>
    obtain ⟨i, ns, C, f, hi, hi9, rfl, hst, hbn⟩ := hrel
    obtain ⟨wo, rfl⟩ : ∃ wo : World, wo = wr := ⟨_, rfl⟩
    have hsw : w3.heap.size ≤ wo.heap.size := hbn.out.1.2
    by_cases hlt : i < n
    · obtain ⟨er, hrw⟩ := HM.out.rows
      obtain ⟨ad, x, rfl, hx, hxl, c0, c1, c2, c3, c4, c5, c6⟩ := row_at (hrw.below hbn.out.1.1) hlt
      have hltI : (i : Int) < (n : Int) := by omega
      have h0I : (0 : Int) ≤ (i : Int) := by omega
      have hrx := (HM.out.each x (List.mem_of_getElem? hx)).below hbn.out.1.1
      have HXE := hid (show (rows.map RoA.d)[i]? = some x.d by rw [List.getElem?_map, hx]; rfl)
      clear hx hxl hrw
      obtain ⟨nm, ep, fl, la, sc, en, ea, ec, op, oa, oc⟩ := x
      by_cases h8I : (8 : Int) < (i : Int)
      · have H9 := hid (show i = 9 by omega)
        simp only at c0 c1 c2 c3 c4 c5 c6
        have HF := hid (own_fin (hst.out.1.alloc (.cells (aR nm ep fl la sc (.slice ea en.length ec) (.slice oa op.length oc)) 42)) (hst.out.2.2.1.alloc _) (fun x hx => (hst.out.2.2.2 x hx).below ((Below.refl _ _).alloc (Nat.le_refl _) _)) (hbn.out.1.1.alloc hbn.out.1.1.size _) hs3 (hbn.out.2.trans (by rw [H9.out])))
        have k2 : (wo.alloc (.cells (aR nm ep fl la sc (.slice ea en.length ec) (.slice oa op.length oc)) 42)).cell? ⟨w.heap.size + 1 + 1, 0, none⟩ = some (.slice C ns.length f) := (hst.out.2.1.alloc _).cell 0
        have k1 : (wo.alloc (.cells (aR nm ep fl la sc (.slice ea en.length ec) (.slice oa op.length oc)) 42)).cell? ⟨w.heap.size + 1, 0, none⟩ = some (.slice none 0 0) := (hst.out.1.alloc _).cell 0
        have kf : (wo.alloc (.cells (aR nm ep fl la sc (.slice ea en.length ec) (.slice oa op.length oc)) 42)).frozen? ⟨w.heap.size + 1, 0, none⟩ = false := (hst.out.1.alloc _).frozen 0
        have kl : w.heap.size + 1 < (wo.alloc (.cells (aR nm ep fl la sc (.slice ea en.length ec) (.slice oa op.length oc)) 42)).heap.size := (hst.out.1.alloc _).lt
        have kd := ((hst.out.1.alloc (.cells (aR nm ep fl la sc (.slice ea en.length ec) (.slice oa op.length oc)) 42)).set_ 0 (.slice C ns.length f)).cell 0
        clear hst hbn hrx
        go_wp2_with fail
        refine bodyPost_ret (v := .agg #[.slice C ns.length f]) ?_ rfl HF.out
        simp [results, Try.results11, go_sem, kd]
      · obtain ⟨n1, hn1⟩ : ∃ n1, n1 = en.length := ⟨_, rfl⟩
        obtain ⟨n2, hn2⟩ : ∃ n2, n2 = op.length := ⟨_, rfl⟩
        obtain ⟨m1, hm1⟩ : ∃ m1, m1 = min nm.size 20 := ⟨_, rfl⟩
        obtain ⟨m2, hm2⟩ : ∃ m2, m2 = min n1 20 := ⟨_, rfl⟩
        obtain ⟨m3, hm3⟩ : ∃ m3, m3 = min n2 40 := ⟨_, rfl⟩
        simp only at c0 c1 c2 c3 c4 c5 c6
        rw [← hn1] at c5
        rw [← hn2] at c6
        have hmin1 : ∀ w, (Builtin.min_ #[3, 3] 3 #[.int .i64 (nm.size : Int), .int .i64 20]).run Try.prog w = .ok (.int .i64 (m1 : Nat)) w := min_at hm1 20 rfl
        have hmin2 : ∀ w, (Builtin.min_ #[3, 3] 3 #[.int .i64 (n1 : Int), .int .i64 20]).run Try.prog w = .ok (.int .i64 (m2 : Nat)) w := min_at hm2 20 rfl
        have hmin3 : ∀ w, (Builtin.min_ #[3, 3] 3 #[.int .i64 (n2 : Int), .int .i64 40]).run Try.prog w = .ok (.int .i64 (m3 : Nat)) w := min_at hm3 40 rfl
        have hec := hrx.enc
        have hoc := hrx.opc
        simp only at hec hoc
        rw [← hn1] at hec
        rw [← hn2] at hoc
        have g1 : ((m1 : Nat) : Int) ≤ (nm.size : Nat) := by omega
        have g1n : m1 ≤ nm.size := by omega
        have g2 : ((m2 : Nat) : Int) ≤ (ec : Nat) := by omega
        have g2n : m2 ≤ ec := by omega
        have g3 : ((m3 : Nat) : Int) ≤ (oc : Nat) := by omega
        have g3n : m3 ≤ oc := by omega
        have HRX := hid hrx
        have HST := hid hst.out
        have HBN := hid hbn.out
        have HMM := hid (And.intro (And.intro hn1 hn2) (And.intro hm1 (And.intro hm2 hm3)))
        obtain ⟨s1, hs1⟩ : ∃ s1, s1 = nm.extract 0 m1 := ⟨_, rfl⟩
        obtain ⟨w4, hw4⟩ : ∃ w4, w4 = wo.alloc (.cells (aR nm ep fl la sc (.slice ea n1 ec) (.slice oa n2 oc)) 42) := ⟨_, rfl⟩
        have k4 : Blk w4 wo.heap.size 42 (aR nm ep fl la sc (.slice ea n1 ec) (.slice oa n2 oc)) := by rw [hw4]; exact Blk.new _ _ _
        have hb4 : Below wo.heap.size wo w4 := by rw [hw4]; exact (Below.refl _ _).alloc (Nat.le_refl _) _
        have K5 := hid (show Blk (wo.alloc (.cells (aR (nm.extract 0 m1) ep fl la sc (.slice ea n1 ec) (.slice oa n2 oc)) 42)) wo.heap.size 42 (aR (nm.extract 0 m1) ep fl la sc (.slice ea n1 ec) (.slice oa n2 oc)) from Blk.new _ _ _)
        have HB5 := hid (show Below wo.heap.size wo (wo.alloc (.cells (aR (nm.extract 0 m1) ep fl la sc (.slice ea n1 ec) (.slice oa n2 oc)) 42)) from (Below.refl _ _).alloc (Nat.le_refl _) _)
        have HCE := hid (fun W (hW : Below wo.heap.size wo W) => (show Calls Try.prog 36 #[.slice ea m2 ec] W fun e w' => ∃ C f, e = .returned (.slice C m2 f) ∧ w'.ownsRow W.heap.size 45 5 (.slice C m2 f) m2 ((en.take m2).flatMap cellsN) ∧ Below W.heap.size W w' by
          obtain ⟨e, hr⟩ := hrx.en
          simp only at hr
          rw [← hn1] at hr
          have h2 := (hr.below hW).take (k := m2) (by omega)
          rw [take_cellsN] at h2
          exact clone_e ea m2 ec _ W h2 (by omega)))
        have HCP := hid (fun W (hW : Below wo.heap.size wo W) => (show Calls Try.prog 37 #[.slice oa m3 oc] W fun e w' => ∃ C f, e = .returned (.slice C m3 f) ∧ w'.ownsRow W.heap.size 47 2 (.slice C m3 f) m3 ((op.take m3).flatMap cellsP) ∧ Below W.heap.size W w' by
          obtain ⟨e, hr⟩ := hrx.op
          simp only at hr
          rw [← hn2] at hr
          have h2 := (hr.below hW).take (k := m3) (by omega)
          rw [take_cells] at h2
          exact clone_p oa m3 oc _ W h2 (by omega)))
        clear hn1 hn2 hm1 hm2 hm3 hec hoc hrx hst hbn k4 hb4 hw4
        go_upto_region 7 with fail
        clear c0 c1 c2 c3 c4 c5 c6
        generalize wo.alloc (.cells (aR (nm.extract 0 m1) ep fl la sc (.slice ea n1 ec) (.slice oa n2 oc)) 42) = w5 at *
        refine wp_region_noPanic ?_
        refine AnyTill.begin (S := (fun W => W.cell? ⟨wo.heap.size, 5, none⟩ = some (.slice ea n1 ec) ∧ W.cell? ⟨wo.heap.size, 6, none⟩ = some (.slice oa n2 oc))) (t := 17) (by kernel_rfl) ⟨K5.out.drew.cell 5, K5.out.drew.cell 6⟩ (fun hHeld => ?_)
        refine AnyTill.take (i := 0) (v := ?_) rfl (by kernel_rfl) (by kernel_rfl) (by kernel_rfl) (by kernel_rfl) (by kernel_rfl) (fun _ _ _ h => h) (Or.inl ⟨by rfl, ?_⟩) (by assumption) ?_
        rotate_left
        · intro W hW
          obtain ⟨x5, x6⟩ := hW
          go_simp
          try rfl
        simp only [List.getElem_toArray, List.getElem_cons_zero, Act.put, List.setIfInBounds_toArray, List.set_cons_zero, List.set_cons_succ]
        refine AnyTill.take (i := 1) (v := ?_) rfl (by kernel_rfl) (by kernel_rfl) (by kernel_rfl) (by kernel_rfl) (by kernel_rfl) (fun _ _ _ h => h) (Or.inl ⟨by rfl, ?_⟩) (by assumption) ?_
        rotate_left
        · intro W hW
          obtain ⟨x5, x6⟩ := hW
          go_simp
          try rfl
        simp only [List.getElem_toArray, List.getElem_cons_succ, List.getElem_cons_zero, Act.put, List.setIfInBounds_toArray, List.set_cons_zero, List.set_cons_succ]
        refine AnyTill.take (i := 2) (v := ?_) rfl (by kernel_rfl) (by kernel_rfl) (by kernel_rfl) (by kernel_rfl) (by kernel_rfl) (fun _ _ _ h => h) (Or.inl ⟨by rfl, ?_⟩) (by assumption) ?_
        rotate_left
        · intro W hW
          obtain ⟨x5, x6⟩ := hW
          go_simp
          try rfl
        simp only [List.getElem_toArray, List.getElem_cons_succ, List.getElem_cons_zero, Act.put, List.setIfInBounds_toArray, List.set_cons_zero, List.set_cons_succ]
        refine AnyTill.take (i := 3) (v := ?_) rfl (by kernel_rfl) (by kernel_rfl) (by kernel_rfl) (by kernel_rfl) (by kernel_rfl) (fun _ _ _ h => h) (Or.inl ⟨by rfl, ?_⟩) (by assumption) ?_
        rotate_left
        · intro W hW
          obtain ⟨x5, x6⟩ := hW
          go_simp
          try rfl
        simp only [List.getElem_toArray, List.getElem_cons_succ, List.getElem_cons_zero, Act.put, List.setIfInBounds_toArray, List.set_cons_zero, List.set_cons_succ]
        refine AnyTill.take (i := 4) (v := ?_) rfl (by kernel_rfl) (by kernel_rfl) (by kernel_rfl) (by kernel_rfl) (by kernel_rfl) (fun _ _ _ h => h) (Or.inl ⟨by rfl, ?_⟩) (by assumption) ?_
        rotate_left
        · intro W hW
          obtain ⟨x5, x6⟩ := hW
          go_simp
          try rfl
        simp only [List.getElem_toArray, List.getElem_cons_succ, List.getElem_cons_zero, Act.put, List.setIfInBounds_toArray, List.set_cons_zero, List.set_cons_succ]
        refine AnyTill.take (i := 5) (v := ?_) rfl (by kernel_rfl) (by kernel_rfl) (by kernel_rfl) (by kernel_rfl) (by kernel_rfl) (fun _ _ _ h => h) (Or.inl ⟨by rfl, ?_⟩) (by assumption) ?_
        rotate_left
        · intro W hW
          obtain ⟨x5, x6⟩ := hW
          go_simp
          try rfl
        simp only [List.getElem_toArray, List.getElem_cons_succ, List.getElem_cons_zero, Act.put, List.setIfInBounds_toArray, List.set_cons_zero, List.set_cons_succ]
        refine AnyTill.take (i := 6) (v := ?_) rfl (by kernel_rfl) (by kernel_rfl) (by kernel_rfl) (by kernel_rfl) (by kernel_rfl) (fun _ _ _ h => h) (Or.inl ⟨by rfl, ?_⟩) (by assumption) ?_
        rotate_left
        · intro W hW
          obtain ⟨x5, x6⟩ := hW
          go_simp
          try rfl
        simp only [List.getElem_toArray, List.getElem_cons_succ, List.getElem_cons_zero, Act.put, List.setIfInBounds_toArray, List.set_cons_zero, List.set_cons_succ]
        refine AnyTill.take (i := 8) (v := ?_) rfl (by kernel_rfl) (by kernel_rfl) (by kernel_rfl) (by kernel_rfl) (by kernel_rfl) (fun _ _ _ h => h) (Or.inl ⟨by rfl, ?_⟩) (by assumption) ?_
        rotate_left
        · intro W hW
          obtain ⟨x5, x6⟩ := hW
          go_simp
          try rfl
        simp only [List.getElem_toArray, List.getElem_cons_succ, List.getElem_cons_zero, Act.put, List.setIfInBounds_toArray, List.set_cons_zero, List.set_cons_succ]
        refine AnyTill.take (i := 9) (v := ?_) rfl (by kernel_rfl) (by kernel_rfl) (by kernel_rfl) (by kernel_rfl) (by kernel_rfl) (fun _ _ _ h => h) (Or.inl ⟨by rfl, ?_⟩) (by assumption) ?_
        rotate_left
        · intro W hW
          obtain ⟨x5, x6⟩ := hW
          go_simp
          try rfl
        simp only [List.getElem_toArray, List.getElem_cons_succ, List.getElem_cons_zero, Act.put, List.setIfInBounds_toArray, List.set_cons_zero, List.set_cons_succ]
        refine AnyTill.take (i := 10) (v := ?_) rfl (by kernel_rfl) (by kernel_rfl) (by kernel_rfl) (by kernel_rfl) (by kernel_rfl) (fun _ _ _ h => h) (Or.inl ⟨by rfl, ?_⟩) (by assumption) ?_
        rotate_left
        · intro W hW
          obtain ⟨x5, x6⟩ := hW
          go_simp
          try rfl
        simp only [List.getElem_toArray, List.getElem_cons_succ, List.getElem_cons_zero, Act.put, List.setIfInBounds_toArray, List.set_cons_zero, List.set_cons_succ]
        refine AnyTill.take (i := 11) (v := ?_) rfl (by kernel_rfl) (by kernel_rfl) (by kernel_rfl) (by kernel_rfl) (by kernel_rfl) (fun _ _ _ h => h) (Or.inl ⟨by rfl, ?_⟩) (by assumption) ?_
        rotate_left
        · intro W hW
          obtain ⟨x5, x6⟩ := hW
          go_simp
          try rfl
        simp only [List.getElem_toArray, List.getElem_cons_succ, List.getElem_cons_zero, Act.put, List.setIfInBounds_toArray, List.set_cons_zero, List.set_cons_succ]
        refine AnyTill.takeP (i := 12) (v := ?_) rfl (by kernel_rfl) (by kernel_rfl) (by kernel_rfl) (by kernel_rfl) (fun _ _ _ h => h) (Or.inl ⟨by rfl, ?_⟩) (fun _ => by assumption) ?_
        rotate_left
        · intro W hW
          go_simp
          try rfl
        simp only [List.getElem_toArray, List.getElem_cons_succ, List.getElem_cons_zero, Act.put, List.setIfInBounds_toArray, List.set_cons_zero, List.set_cons_succ]
        refine AnyTill.takeP (i := 13) (v := ?_) rfl (by kernel_rfl) (by kernel_rfl) (by kernel_rfl) (by kernel_rfl) (fun _ _ _ h => h) (Or.inl ⟨by rfl, ?_⟩) (fun _ => by assumption) ?_
        rotate_left
        · intro W hW
          go_simp
          try rfl
        simp only [List.getElem_toArray, List.getElem_cons_succ, List.getElem_cons_zero, Act.put, List.setIfInBounds_toArray, List.set_cons_zero, List.set_cons_succ]
        refine AnyTill.takeP (i := 14) (v := ?_) rfl (by kernel_rfl) (by kernel_rfl) (by kernel_rfl) (by kernel_rfl) (fun _ _ _ h => h) (Or.inl ⟨by rfl, ?_⟩) (fun _ => by assumption) ?_
        rotate_left
        · intro W hW
          go_simp
          try rfl
        simp only [List.getElem_toArray, List.getElem_cons_succ, List.getElem_cons_zero, Act.put, List.setIfInBounds_toArray, List.set_cons_zero, List.set_cons_succ]
        clear hHeld hmin1 hmin2 hmin3
        have hd5 := (HB5.out).drew
        refine AnyTill.one (j := 7) (by kernel_rfl) rfl (fun K hK => ?_)
        go_simp
        refine (HCE.out _ hd5).mono ?_
        rintro d w6 ⟨C1, f1, rfl, ho6, hb6⟩
        refine hK.out _ _ (fun _ => ⟨(K5.out.drew.under hb6).cell 5, (K5.out.drew.under hb6).cell 6⟩) ?_
        clear hK K
        try simp only [List.getElem_toArray, List.getElem_cons_succ, List.getElem_cons_zero, Act.put, List.setIfInBounds_toArray, List.set_cons_zero, List.set_cons_succ]
        have hd6 : Below wo.heap.size wo w6 := hd5.trans (hb6.mono hd5.size)
        refine AnyTill.takeP (i := 16) (v := ?_) rfl (by kernel_rfl) (by kernel_rfl) (by kernel_rfl) (by kernel_rfl) (fun _ _ _ h => h) (Or.inl ⟨by rfl, ?_⟩) (fun _ => ⟨(K5.out.drew.under hb6).cell 5, (K5.out.drew.under hb6).cell 6⟩) ?_
        rotate_left
        · intro W hW
          go_simp
          try rfl
        simp only [List.getElem_toArray, List.getElem_cons_succ, List.getElem_cons_zero, Act.put, List.setIfInBounds_toArray, List.set_cons_zero, List.set_cons_succ]
        refine AnyTill.one (j := 15) (by kernel_rfl) rfl (fun K hK => ?_)
        go_simp
        refine (HCP.out _ hd6).mono ?_
        rintro d w7 ⟨C2, f2, rfl, ho7, hb7⟩
        refine hK.out _ _ (fun _ => ⟨((K5.out.drew.under hb6).under hb7).cell 5, ((K5.out.drew.under hb6).under hb7).cell 6⟩) ?_
        clear hK K
        try simp only [List.getElem_toArray, List.getElem_cons_succ, List.getElem_cons_zero, Act.put, List.setIfInBounds_toArray, List.set_cons_zero, List.set_cons_succ]
        have K7 : Blk w7 wo.heap.size 42 (aR (nm.extract 0 m1) ep fl la sc (.slice ea n1 ec) (.slice oa n2 oc)) := (K5.out.drew.under hb6).under hb7
        have o1 : w7.ownsRow w5.heap.size 45 5 (.slice C1 m2 f1) m2 ((en.take m2).flatMap cellsN) := own_below ho6 hb7
        have o2 : w7.ownsRow w5.heap.size 47 2 (.slice C2 m3 f2) m3 ((op.take m3).flatMap cellsP) := own_low ho7 hb6.size
        have hd7 : Below wo.heap.size wo w7 := hd6.trans (hb7.mono hd6.size)
        have h57 : w5.heap.size ≤ w7.heap.size := Nat.le_trans hb6.size hb7.size
        have hr5 : wo.heap.size < w5.heap.size := K5.out.lt
        obtain ⟨x0, x1, x2, x3, x4, x5, x6⟩ := K7.seven
        have xf := K7.frozen
        have xl := K7.lt
        clear hd5 hd6 hb6 hb7 ho6 ho7 K5 HB5
        have K8 := K7.set_ 5 (.slice C1 m2 f1)
        have f5 := xf 5
        refine AnyTill.one (j := 17) (by kernel_rfl) rfl (fun K hK => ?_)
        go_simp
        refine hK.out _ _ (fun h => absurd h (by decide)) ?_
        clear hK K
        try simp only [List.getElem_toArray, List.getElem_cons_succ, List.getElem_cons_zero, Act.put, List.setIfInBounds_toArray, List.set_cons_zero, List.set_cons_succ]
        have o1' := own_farM o1 (a := ⟨wo.heap.size, 5, none⟩) (by simpa using hr5) (.slice C1 m2 f1)
        have o2' := own_farM o2 (a := ⟨wo.heap.size, 5, none⟩) (by simpa using hr5) (.slice C1 m2 f1)
        have hd8 := hd7.setCell (p := ⟨wo.heap.size, 5, none⟩) (Nat.le_refl _) (.slice C1 m2 f1)
        have h58 : w5.heap.size ≤ (w7.setCell ⟨wo.heap.size, 5, none⟩ (.slice C1 m2 f1)).heap.size := by simpa using h57
        clear o1 o2 hd7 h57 x0 x1 x2 x3 x4 x5 x6 xf xl K7 f5
        generalize w7.setCell ⟨wo.heap.size, 5, none⟩ (.slice C1 m2 f1) = w8 at *
        have K8 : Blk w8 wo.heap.size 42 (aR (nm.extract 0 m1) ep fl la sc (.slice C1 m2 f1) (.slice oa n2 oc)) := K8
        refine AnyTill.one (j := 18) (by kernel_rfl) rfl (fun K hK => ?_)
        go_simp
        refine hK.out _ _ (fun h => absurd h (by decide)) ?_
        clear hK K
        try simp only [List.getElem_toArray, List.getElem_cons_succ, List.getElem_cons_zero, Act.put, List.setIfInBounds_toArray, List.set_cons_zero, List.set_cons_succ]
        obtain ⟨x0, x1, x2, x3, x4, x5, x6⟩ := K8.seven
        have f6 := K8.frozen 6
        have xl := K8.lt
        have K9 := K8.set_ 6 (.slice C2 m3 f2)
        refine AnyTill.one (j := 19) (by kernel_rfl) rfl (fun K hK => ?_)
        go_simp
        refine hK.out _ _ (fun h => absurd h (by decide)) ?_
        clear hK K
        try simp only [List.getElem_toArray, List.getElem_cons_succ, List.getElem_cons_zero, Act.put, List.setIfInBounds_toArray, List.set_cons_zero, List.set_cons_succ]
        have o1 := own_farM o1' (a := ⟨wo.heap.size, 6, none⟩) (by simpa using hr5) (.slice C2 m3 f2)
        have o2 := own_farM o2' (a := ⟨wo.heap.size, 6, none⟩) (by simpa using hr5) (.slice C2 m3 f2)
        have hd9 := hd8.setCell (p := ⟨wo.heap.size, 6, none⟩) (Nat.le_refl _) (.slice C2 m3 f2)
        have h59 : w5.heap.size ≤ (w8.setCell ⟨wo.heap.size, 6, none⟩ (.slice C2 m3 f2)).heap.size := by simpa using h58
        clear o1' o2' hd8 h58 x0 x1 x2 x3 x4 x5 x6 xl K8 f6
        generalize w8.setCell ⟨wo.heap.size, 6, none⟩ (.slice C2 m3 f2) = w9 at *
        have K9 : Blk w9 wo.heap.size 42 (aR (nm.extract 0 m1) ep fl la sc (.slice C1 m2 f1) (.slice C2 m3 f2)) := K9
        refine AnyTill.done (by kernel_rfl) ?_ _
        refine NoPanic.normal ?_
        obtain ⟨x0, x1, x2, x3, x4, x5, x6⟩ := K9.seven
        have K9 := hid K9
        have O1 := hid o1
        have O2 := hid o2
        have HD9 := hid hd9
        clear o1 o2 hd9 x0 x1 x2 x3 x4 x6
        go_upto_region 9 with fail
        have HN9 := hid (And.intro hr5 h59)
        clear x5 HCE HCP
        go_loopw [47] (fun u47 wr => ∃ (k : Nat) (dn : List EnA), k ≤ m2 ∧ u47 = .int .i64 (k : Nat) ∧ Hid (dn.length = k ∧ wr.ownsRow w5.heap.size 45 5 (.slice C1 m2 f1) m2 ((dn ++ (en.take m2).drop k).flatMap cellsN) ∧ dn.map Prod.fst = ((en.take m2).take k).map (fun e => ownEn e.1) ∧ ∀ x ∈ dn, Reads wr 3 1 x.2.1 x.1.ps.length (x.1.ps.map (Value.int .i64)) ∧ x.1.ps.length ≤ x.2.2) ∧ Hid (w9.grownBy wr (Value.slice C1 m2 f1).ownBlock)) (fun u47 _ => m2 - (intOf u47).toNat)
        case atStart => exact ⟨0, [], Nat.zero_le _, rfl, hid ⟨rfl, by simpa using O1.out, rfl, fun x hx => absurd hx (by simp)⟩, hid ⟨rfl, rfl, rfl, Nat.le_refl _, fun _ _ _ => rfl⟩⟩
        case round =>
          obtain ⟨k, dn, hk, rfl, hq, hg⟩ := hrel
          have hbq : Below wo.heap.size wo wr := HD9.out.grown hg.out (by have := HN9.out; omega) (fun b hb => by have := O1.out.lt b hb; have := HN9.out; omega)
          have hsq := hg.out.size
          by_cases hkm : k < m2
          · have hm20 : m2 ≤ 20 := by have := HMM.out.2.2.1; omega
            obtain ⟨hdl, hown, hdm, hdr⟩ := hq.out
            have hml : (en.take m2).length = m2 := by rw [List.length_take]; have := HMM.out; omega
            obtain ⟨e, he⟩ : ∃ e, (en.take m2)[k]? = some e := ⟨_, List.getElem?_eq_getElem (by omega)⟩
            have hdp : (en.take m2).drop k = e :: (en.take m2).drop (k + 1) := by rw [List.drop_eq_getElem_cons (List.getElem?_eq_some_iff.1 he).1, (List.getElem?_eq_some_iff.1 he).2]
            rw [hdp] at hown
            obtain ⟨a2, x2, hC, hx2, _, c0, c1, c2, c3, c4⟩ := en_at (Reads.of_own hown) hkm
            rw [List.getElem?_append_right (by omega), hdl, Nat.sub_self, List.getElem?_cons_zero] at hx2
            injection hx2 with hx2
            subst hx2
            subst hC
            have hem : e ∈ en := List.mem_of_mem_take (List.mem_of_getElem? he)
            obtain ⟨⟨t4, hrp⟩, ⟨hp1, hp2⟩, _⟩ := HRX.out.ens e hem
            obtain ⟨⟨fs, ls, ct, by_, ps⟩, eA, eC⟩ := e
            obtain ⟨n4, hn4⟩ : ∃ n4, n4 = ps.length := ⟨_, rfl⟩
            obtain ⟨m4, hm4⟩ : ∃ m4, m4 = min n4 40 := ⟨_, rfl⟩
            simp only at c0 c1 c2 c3 c4 hrp hp1 hp2
            rw [← hn4] at c3 hrp hp1
            have hmin4 : ∀ w, (Builtin.min_ #[3, 3] 3 #[.int .i64 (n4 : Int), .int .i64 40]).run Try.prog w = .ok (.int .i64 (m4 : Nat)) w := min_at hm4 40 rfl
            have q4 : ((m4 : Nat) : Int) ≤ (eC : Nat) := by omega
            have q4n : m4 ≤ eC := by omega
            have hkI : (k : Int) < (m2 : Int) := by omega
            have hk0 : (0 : Int) ≤ (k : Int) := by omega
            have hn4m : n4 ≤ 9223372036854775807 := by unfold maxLen at hp2; omega
            have HCN := hid (fun W (hW : Below wo.heap.size wo W) => (show Calls Try.prog 38 #[.slice eA m4 eC] W fun e w' => ∃ C f, e = .returned (.slice C m4 f) ∧ w'.ownsRow W.heap.size 3 1 (.slice C m4 f) m4 ((ps.take m4).map (Value.int .i64)) ∧ Below W.heap.size W w' by
              have h2 := (hrp.below hW).take (k := m4) (by omega)
              rw [Nat.mul_one, ← List.map_take] at h2
              exact clone_n eA m4 eC _ W h2 (by omega)))
            obtain ⟨hput, hfz, hal, hab, haa, hgt⟩ := own_put hown (k := k) (r := 3) (by omega) (.slice none 0 0)
            have HAA := hid haa
            clear hput hfz hgt haa
            have KE := hid (Blk.new wr 45 (aE fs ls ct (.slice eA n4 eC) by_))
            have hneC : (Value.slice (some a2) m2 f1).ownBlock ≠ some wo.heap.size := by intro h; have := O1.out.lt _ h; have := HN9.out; omega
            have KQ := hid ((Blk.grown K9.out hg.out (fun e => hneC e.symm)).alloc (.cells (aE fs ls ct (.slice eA n4 eC) by_) 45))
            have hbe := hbq.alloc hbq.size (.cells (aE fs ls ct (.slice eA n4 eC) by_) 45)
            have hge : w9.grownBy (wr.alloc (.cells (aE fs ls ct (.slice eA n4 eC) by_) 45)) (Value.slice (some a2) m2 f1).ownBlock := grown_on hg.out ((Below.refl _ _).alloc (Nat.le_refl _) _)
            have HQQ := hid (And.intro (And.intro hdl (hown.alloc (.cells (aE fs ls ct (.slice eA n4 eC) by_) 45))) (And.intro hdm (And.intro (fun x hx => And.intro ((hdr x hx).1.alloc (.cells (aE fs ls ct (.slice eA n4 eC) by_) 45)) (hdr x hx).2) (And.intro hge (And.intro hbe (And.intro hn4 (And.intro hm4 he)))))))
            have hel : wr.heap.size < (wr.alloc (.cells (aE fs ls ct (.slice eA n4 eC) by_) 45)).heap.size := KE.out.lt
            have hwr5 := HN9.out.1
            clear hdl hown hdm hdr hml hdp hem hrp hp1 hp2 hn4 hm4 hneC hbe hge hq hg hbq
            go_upto_region 11 with fail
            clear c0 c1 c2 c3 c4
            generalize wr.alloc (.cells (aE fs ls ct (.slice eA n4 eC) by_) 45) = wE at *
            have hdE := HQQ.out.2.2.2.2.1.drew
            refine wp_region_noPanic ?_
            refine wp_region_held_drew (S := (fun W => W.cell? ⟨wo.heap.size, 5, none⟩ = some (.slice (some a2) m2 f1) ∧ W.cell? ⟨wr.heap.size, 3, none⟩ = some (.slice eA n4 eC))) (by kernel_rfl) ⟨KQ.out.drew.cell 5, KE.out.drew.cell 3⟩ (fun hHeld => ?_)
            refine wpAnyH_take (i := 0) (v := ?_) rfl (by kernel_rfl) (by kernel_rfl) (by kernel_rfl) (fun _ _ _ h => h) (Or.inl ⟨by rfl, ?_⟩) (by assumption) ?_
            rotate_left
            · intro W hW
              obtain ⟨y5, y3⟩ := hW
              go_simp
              try rfl
            simp only [List.getElem_toArray, List.getElem_cons_zero, Act.put, List.setIfInBounds_toArray, List.set_cons_zero, List.set_cons_succ]
            refine wpAnyH_take (i := 1) (v := ?_) rfl (by kernel_rfl) (by kernel_rfl) (by kernel_rfl) (fun _ _ _ h => h) (Or.inl ⟨by rfl, ?_⟩) (by assumption) ?_
            rotate_left
            · intro W hW
              obtain ⟨y5, y3⟩ := hW
              go_simp
              try rfl
            simp only [List.getElem_toArray, List.getElem_cons_succ, List.getElem_cons_zero, Act.put, List.setIfInBounds_toArray, List.set_cons_zero, List.set_cons_succ]
            refine wpAnyH_take (i := 2) (v := ?_) rfl (by kernel_rfl) (by kernel_rfl) (by kernel_rfl) (fun _ _ _ h => h) (Or.inl ⟨by rfl, ?_⟩) (by assumption) ?_
            rotate_left
            · intro W hW
              obtain ⟨y5, y3⟩ := hW
              go_simp
              try rfl
            simp only [List.getElem_toArray, List.getElem_cons_succ, List.getElem_cons_zero, Act.put, List.setIfInBounds_toArray, List.set_cons_zero, List.set_cons_succ]
            refine wpAnyH_take (i := 3) (v := ?_) rfl (by kernel_rfl) (by kernel_rfl) (by kernel_rfl) (fun _ _ _ h => h) (Or.inl ⟨by rfl, ?_⟩) (by assumption) ?_
            rotate_left
            · intro W hW
              obtain ⟨y5, y3⟩ := hW
              go_simp
              try rfl
            simp only [List.getElem_toArray, List.getElem_cons_succ, List.getElem_cons_zero, Act.put, List.setIfInBounds_toArray, List.set_cons_zero, List.set_cons_succ]
            refine wpAnyH_take (i := 4) (v := ?_) rfl (by kernel_rfl) (by kernel_rfl) (by kernel_rfl) (fun _ _ _ h => h) (Or.inl ⟨by rfl, ?_⟩) (by assumption) ?_
            rotate_left
            · intro W hW
              obtain ⟨y5, y3⟩ := hW
              go_simp
              try rfl
            simp only [List.getElem_toArray, List.getElem_cons_succ, List.getElem_cons_zero, Act.put, List.setIfInBounds_toArray, List.set_cons_zero, List.set_cons_succ]
            refine wpAnyH_take (i := 5) (v := ?_) rfl (by kernel_rfl) (by kernel_rfl) (by kernel_rfl) (fun _ _ _ h => h) (Or.inl ⟨by rfl, ?_⟩) (by assumption) ?_
            rotate_left
            · intro W hW
              obtain ⟨y5, y3⟩ := hW
              go_simp
              try rfl
            simp only [List.getElem_toArray, List.getElem_cons_succ, List.getElem_cons_zero, Act.put, List.setIfInBounds_toArray, List.set_cons_zero, List.set_cons_succ]
            refine wpAnyH_take (i := 6) (v := ?_) rfl (by kernel_rfl) (by kernel_rfl) (by kernel_rfl) (fun _ _ _ h => h) (Or.inl ⟨by rfl, ?_⟩) (by assumption) ?_
            rotate_left
            · intro W hW
              obtain ⟨y5, y3⟩ := hW
              go_simp
              try rfl
            simp only [List.getElem_toArray, List.getElem_cons_succ, List.getElem_cons_zero, Act.put, List.setIfInBounds_toArray, List.set_cons_zero, List.set_cons_succ]
            refine wpAnyH_take (i := 7) (v := ?_) rfl (by kernel_rfl) (by kernel_rfl) (by kernel_rfl) (fun _ _ _ h => h) (Or.inl ⟨by rfl, ?_⟩) (by assumption) ?_
            rotate_left
            · intro W hW
              obtain ⟨y5, y3⟩ := hW
              go_simp
              try rfl
            simp only [List.getElem_toArray, List.getElem_cons_succ, List.getElem_cons_zero, Act.put, List.setIfInBounds_toArray, List.set_cons_zero, List.set_cons_succ]
            refine wpAnyH_take (i := 8) (v := ?_) rfl (by kernel_rfl) (by kernel_rfl) (by kernel_rfl) (fun _ _ _ h => h) (Or.inl ⟨by rfl, ?_⟩) (by assumption) ?_
            rotate_left
            · intro W hW
              obtain ⟨y5, y3⟩ := hW
              go_simp
              try rfl
            simp only [List.getElem_toArray, List.getElem_cons_succ, List.getElem_cons_zero, Act.put, List.setIfInBounds_toArray, List.set_cons_zero, List.set_cons_succ]
            refine wpAnyH_take (i := 9) (v := ?_) rfl (by kernel_rfl) (by kernel_rfl) (by kernel_rfl) (fun _ _ _ h => h) (Or.inl ⟨by rfl, ?_⟩) (by assumption) ?_
            rotate_left
            · intro W hW
              obtain ⟨y5, y3⟩ := hW
              go_simp
              try rfl
            simp only [List.getElem_toArray, List.getElem_cons_succ, List.getElem_cons_zero, Act.put, List.setIfInBounds_toArray, List.set_cons_zero, List.set_cons_succ]
            refine wpAnyH_ready (rs := [10]) (by kernel_rfl) (by simp) ?_
            refine AllReadyH.cons rfl (fun K hK => ?_) AllReadyH.nil
            go_simp
            refine (HCN.out _ hdE).mono ?_
            rintro d w10 ⟨Cp, fp, rfl, hop, hb10⟩
            refine hK.out _ _ ⟨(KQ.out.drew.under hb10).cell 5, (KE.out.drew.under hb10).cell 3⟩ (fun hHeld => ?_)
            clear hK K
            try simp only [List.getElem_toArray, List.getElem_cons_succ, List.getElem_cons_zero, Act.put, List.setIfInBounds_toArray, List.set_cons_zero, List.set_cons_succ]
            refine wpAnyH_take (i := 11) (v := ?_) rfl (by kernel_rfl) (by kernel_rfl) (by kernel_rfl) (fun _ _ _ h => h) (Or.inl ⟨by rfl, ?_⟩) (by assumption) ?_
            rotate_left
            · intro W hW
              go_simp
              try rfl
            simp only [List.getElem_toArray, List.getElem_cons_succ, List.getElem_cons_zero, Act.put, List.setIfInBounds_toArray, List.set_cons_zero, List.set_cons_succ]
            refine wpAnyH_take (i := 12) (v := ?_) rfl (by kernel_rfl) (by kernel_rfl) (by kernel_rfl) (fun _ _ _ h => h) (Or.inl ⟨by rfl, ?_⟩) (by assumption) ?_
            rotate_left
            · intro W hW
              go_simp
              try rfl
            simp only [List.getElem_toArray, List.getElem_cons_succ, List.getElem_cons_zero, Act.put, List.setIfInBounds_toArray, List.set_cons_zero, List.set_cons_succ]
            have own10 := own_below (w := wE.drew) HQQ.out.1.2 hb10
            obtain ⟨hput, hfz, hal2, hu1, hu2, hgt⟩ := own_put own10 (k := k) (r := 3) (by omega) (.slice Cp m4 fp)
            clear hu1 hu2
            have hcl := hgt (.slice eA n4 eC) (by
              have := get_here dn ((en.take m2).drop (k + 1)) (⟨fs, ls, ct, by_, ps⟩, eA, eC)
              rw [HQQ.out.1.1, ← HQQ.out.2.2.2.2.2.1] at this
              exact this)
            have hal3 : (a2.add (k * 5)).block < w10.heap.size := by rw [HAA.out]; exact hal2
            have KQ10 := KQ.out.drew.under hb10
            have KE10 := KE.out.drew.under hb10
            have hne1 : wo.heap.size ≠ (a2.add (k * 5)).block := by rw [HAA.out]; omega
            have hne2 : wr.heap.size ≠ (a2.add (k * 5)).block := by rw [HAA.out]; omega
            have KQ11 := KQ10.far (p := ⟨(a2.add (k * 5)).block, (a2.add (k * 5)).off + 3, none⟩) hne1 (.slice Cp m4 fp)
            have KE11 := KE10.far (p := ⟨(a2.add (k * 5)).block, (a2.add (k * 5)).off + 3, none⟩) hne2 (.slice Cp m4 fp)
            clear hgt
            refine wpAnyH_ready (rs := [13]) (by kernel_rfl) (by simp) ?_
            refine AllReadyH.cons rfl (fun K hK => ?_) AllReadyH.nil
            go_simp
            refine hK.out _ _ ⟨KQ11.cell 5, KE11.cell 3⟩ (fun hHeld => ?_)
            clear hK K
            try simp only [List.getElem_toArray, List.getElem_cons_succ, List.getElem_cons_zero, Act.put, List.setIfInBounds_toArray, List.set_cons_zero, List.set_cons_succ]
            refine wpAnyH_done (by kernel_rfl) ?_ _
            refine NoPanic.normal ?_
            have HP := hid hput
            have HOP := hid hop
            have HB10 := hid hb10
            clear hHeld hput hfz hal2 hcl hal3 KQ10 KE10 KQ11 KE11 own10 hop hb10 KQ KE hmin4 hdE
            obtain ⟨w11, hw11⟩ : ∃ w11, w11 = w10.setCell ⟨(a2.add (k * 5)).block, (a2.add (k * 5)).off + 3, none⟩ (.slice Cp m4 fp) := ⟨_, rfl⟩
            rw [← hw11] at HP ⊢
            have hdl := HQQ.out.1.1
            have hty : Typed w10 (a2.add (k * 5)).block 45 := by rw [HAA.out]; exact own_typedE (own_below (w := wE.drew) HQQ.out.1.2 HB10.out)
            have hm4l : m4 = (ps.take 40).length := by rw [List.length_take, HQQ.out.2.2.2.2.2.2.1, HQQ.out.2.2.2.2.2.1]; omega
            have hps : ps.take m4 = ps.take 40 := by rw [HQQ.out.2.2.2.2.2.2.1, HQQ.out.2.2.2.2.2.1]; exact take_min' ps 40
            have hO := HP.out
            rw [← hdl, set_here dn ((en.take m2).drop (dn.length + 1)) (⟨fs, ls, ct, by_, ps⟩, eA, eC) (ownEn ⟨fs, ls, ct, by_, ps⟩, Cp, fp) (.slice Cp m4 fp) (by unfold ownEn cellsN; simp only [List.set_cons_succ, List.set_cons_zero]; rw [← hm4l])] at hO
            have HN := hid (show (dn ++ [(ownEn ⟨fs, ls, ct, by_, ps⟩, Cp, fp)]).length = k + 1 ∧ w11.ownsRow w5.heap.size 45 5 (.slice (some a2) m2 f1) m2 (((dn ++ [(ownEn ⟨fs, ls, ct, by_, ps⟩, Cp, fp)]) ++ (en.take m2).drop (k + 1)).flatMap cellsN) ∧ (dn ++ [(ownEn ⟨fs, ls, ct, by_, ps⟩, Cp, fp)]).map Prod.fst = ((en.take m2).take (k + 1)).map (fun e => ownEn e.1) ∧ ∀ x ∈ dn ++ [(ownEn ⟨fs, ls, ct, by_, ps⟩, Cp, fp)], Reads w11 3 1 x.2.1 x.1.ps.length (x.1.ps.map (Value.int .i64)) ∧ x.1.ps.length ≤ x.2.2 from by
              refine ⟨by simp [hdl], by rw [← hdl]; exact hO, ?_, ?_⟩
              · have he := HQQ.out.2.2.2.2.2.2.2
                rw [List.map_append, HQQ.out.2.1, List.take_succ_eq_append_getElem (List.getElem?_eq_some_iff.1 he).1, List.map_append, (List.getElem?_eq_some_iff.1 he).2]
                rfl
              · intro x hx
                rw [hw11]
                rcases List.mem_append.1 hx with hx | hx
                · exact ⟨(((HQQ.out.2.2.1 x hx).1.drew).below HB10.out).setCell (p := ⟨(a2.add (k * 5)).block, (a2.add (k * 5)).off + 3, none⟩) hty (by decide) _, (HQQ.out.2.2.1 x hx).2⟩
                · obtain rfl := List.mem_singleton.1 hx
                  have h := Reads.of_own HOP.out
                  rw [hps] at h
                  show Reads _ _ 1 Cp (ps.take 40).length _ ∧ (ps.take 40).length ≤ fp
                  rw [← hm4l]
                  obtain ⟨_, _, hv1, hv2, _⟩ := own_form HOP.out
                  injection hv1 with _ _ hv3
                  refine ⟨?_, by omega⟩
                  exact h.setCell (p := ⟨(a2.add (k * 5)).block, (a2.add (k * 5)).off + 3, none⟩) hty (by decide) _)
            have HG := hid (show w9.grownBy w11 (Value.slice (some a2) m2 f1).ownBlock by
              rw [hw11]
              exact grown_set (grown_on (grown_on HQQ.out.2.2.2.1 (Below.refl _ _).drew) HB10.out) (by show some a2.block = some (a2.add (k * 5)).block; rw [HAA.out]) _)
            clear hw11 hdl hty hm4l hps hO HP HOP HB10 HQQ HAA
            generalize dn ++ [(ownEn ⟨fs, ls, ct, by_, ps⟩, Cp, fp)] = dn2 at *
            go_wp2_with fail
            go_roundw
            case rel => exact ⟨k + 1, dn2, by omega, by go_num, HN, HG⟩
            case measure => simp [intOf]; omega
          · obtain rfl : k = m2 := by omega
            obtain ⟨hdl, hown, hdm, hdr⟩ := hq.out
            have hdm2 : dn.map Prod.fst = (en.take k).map (fun e => ownEn e.1) := by rw [hdm, List.take_take, Nat.min_self]
            rw [show (en.take k).drop k = [] from List.drop_eq_nil_of_le (by rw [List.length_take]; omega), List.append_nil] at hown
            have hopl : (op.take m3).length = m3 := by rw [List.length_take]; have := HMM.out; omega
            obtain ⟨x, hx⟩ : ∃ x : RoA, x = ⟨nm.extract 0 m1, ep, fl, la, sc, dn, C1, f1, op.take m3, C2, f2⟩ := ⟨_, rfl⟩
            have hne5 : (Value.slice C1 k f1).ownBlock ≠ some wo.heap.size := by intro h; have := O1.out.lt _ h; have := HN9.out; omega
            have KR := Blk.grown K9.out hg.out (fun e => hne5 e.symm)
            have K1' := HST.out.1.below hbq (by have := HST.out.1.lt; omega)
            have K2' := HST.out.2.1.below hbq (by have := HST.out.2.1.lt; omega)
            have hns := own_below HST.out.2.2.1 hbq
            have hrf : ∀ y ∈ ns, RoFr wr y := fun y hy => (HST.out.2.2.2 y hy).below hbq
            have O2' := O2.out.kept hg.out (own_ne3 O2.out O1.out (by decide))
            have h20 : k ≤ 20 := by have := HMM.out.2.2.1; omega
            have h40 : m3 ≤ 40 := by have := HMM.out.2.2.2; omega
            have HXF := hid (show RoFr wr x by
              rw [hx]
              refine ⟨?_, fun e he => (hdr e he).1, ?_, ?_, ?_, ?_, ?_, ?_, fun e he => (hdr e he).2⟩
              · show Reads wr _ 5 C1 dn.length _
                rw [hdl]; exact Reads.of_own hown
              · show Reads wr _ 2 C2 (op.take m3).length _
                rw [hopl]; exact Reads.of_own O2'
              · intro e he
                have h1 : e.1 ∈ dn.map Prod.fst := List.mem_map_of_mem he
                rw [hdm2] at h1
                obtain ⟨y, _, h2⟩ := List.mem_map.1 h1
                rw [← h2]
                show (y.1.ps.take 40).length ≤ 256
                rw [List.length_take]; omega
              · show dn.length ≤ 256
                omega
              · show (op.take m3).length ≤ 256
                omega
              · show (nm.extract 0 m1).size ≤ 255
                have := HMM.out.2.1
                rw [ByteArray.size_extract]; omega
              · intro e he
                have h1 : e.1 ∈ dn.map Prod.fst := List.mem_map_of_mem he
                rw [hdm2] at h1
                obtain ⟨y, hy, h2⟩ := List.mem_map.1 h1
                rw [← h2]
                exact (HRX.out.ens y (List.mem_of_mem_take hy)).2.2)
            have HXD := hid (show x.d = ownRo (RoA.d ⟨nm, ep, fl, la, sc, en, ea, ec, op, oa, oc⟩) by
              rw [hx]
              unfold RoA.d ownRo
              simp only
              rw [hdm2, ← HMM.out.2.1, HMM.out.2.2.1, HMM.out.1.1, take_min', HMM.out.2.2.2, HMM.out.1.2, take_min', ← List.map_take, List.map_map]
              rfl)
            have hcx : aR (nm.extract 0 m1) ep fl la sc (.slice C1 k f1) (.slice C2 m3 f2) = (cellsR x).toArray := by
              rw [hx]
              show _ = (cellsR ⟨nm.extract 0 m1, ep, fl, la, sc, dn, C1, f1, op.take m3, C2, f2⟩).toArray
              unfold cellsR
              rw [hdl, hopl]
            obtain ⟨a0, a1, a2, a3, a4, a5, a6⟩ := KR.seven
            have c2 : wr.cell? ⟨w.heap.size + 1 + 1, 0, none⟩ = some (.slice C ns.length f) := K2'.cell 0
            have HW12 := hid (show Below wr.heap.size wr (wr.alloc (.cells (cellsR x).toArray 42)) from (Below.refl _ _).alloc (Nat.le_refl _) _)
            have hnw := new_reads wr 42 7 (cellsR x) rfl
            have hnA := hns.alloc (.cells (cellsR x).toArray 42)
            have HKK := hid (And.intro (And.intro (K1'.alloc (.cells (cellsR x).toArray 42)) (K2'.alloc (.cells (cellsR x).toArray 42))) (And.intro (fun y hy => (hrf y hy).below HW12.out) (HXF.out.below HW12.out)))
            have hsz : w3.heap.size ≤ wr.heap.size + 1 := by omega
            have hnl : ns.length ≤ 9 := by
              have := congrArg List.length HBN.out.2
              unfold ownL at this
              rw [List.length_map, List.length_map, List.length_take] at this
              omega
            have HBW := hid hbq
            rw [← hcx] at hnw hnA HKK HW12
            clear hcx hdl hown hdm hdr hdm2 hopl hne5 KR K1' K2' hns hrf O2' hq hg hbq hx HXF HRX HMM
            go_wp2_with (at_builtin; refine wpList_append_any _ rfl (.tmp 67) (.tmp 69) 22 rfl w3.heap.size 42 i0 (.agg zRow) 7 96 Try.underlying22 HI.out.1 HI.out.2.1 HI.out.2.2.1 HI.out.2.2.2 rfl (by decide) _ ns.length (ns.flatMap cellsR) rfl hnA (some ⟨wr.heap.size, 0, none⟩) 1 1 (cellsR x) rfl hnw (cellsR_one x) (by simp only [maxLen]; omega) (by omega) (by simp; omega) ?_; intro v' w12 hown' hgr' hv'; obtain ⟨C9, f9, hvf, _, _⟩ := own_form hown'; subst hvf; clear hv'; replace hgr' : (wr.alloc (.cells (aR (nm.extract 0 m1) ep fl la sc (.slice C1 k f1) (.slice C2 m3 f2)) 42)).grownBy w12 (Value.slice C ns.length f).ownBlock := hgr'; have K2n := Blk.grown HKK.out.1.2 hgr' (by intro e; have := hnA.lt _ e.symm; omega); have s2 : w12.cell? ⟨w.heap.size + 1 + 1, 0, none⟩ = some (.slice C ns.length f) := K2n.cell 0; have sf : w12.frozen? ⟨w.heap.size + 1 + 1, 0, none⟩ = false := K2n.frozen 0; have sl := K2n.lt)
            have K1n := Blk.grown HKK.out.1.1 hgr' (by intro e; have := hnA.lt _ e.symm; omega)
            have hnx : (ns ++ [x]).length = ns.length + 1 := by simp
            have hcl : ns.flatMap cellsR ++ cellsR x = (ns ++ [x]).flatMap cellsR := by simp
            rw [hcl, ← hnx] at hown'
            have HN := hid (show Blk (w12.setCell ⟨w.heap.size + 1 + 1, 0, none⟩ (.slice C9 (ns ++ [x]).length f9)) (w.heap.size + 1) 24 #[.slice none 0 0] ∧ Blk (w12.setCell ⟨w.heap.size + 1 + 1, 0, none⟩ (.slice C9 (ns ++ [x]).length f9)) (w.heap.size + 1 + 1) 24 #[.slice C9 (ns ++ [x]).length f9] ∧ (w12.setCell ⟨w.heap.size + 1 + 1, 0, none⟩ (.slice C9 (ns ++ [x]).length f9)).ownsRow w3.heap.size 42 7 (.slice C9 (ns ++ [x]).length f9) (ns ++ [x]).length ((ns ++ [x]).flatMap cellsR) ∧ (∀ y ∈ ns ++ [x], RoFr (w12.setCell ⟨w.heap.size + 1 + 1, 0, none⟩ (.slice C9 (ns ++ [x]).length f9)) y) from by
              refine ⟨K1n.far (by simp) _, K2n.set_ 0 _, own_farM hown' (a := ⟨w.heap.size + 1 + 1, 0, none⟩) (by simp; omega) _, fun y hy => RoFr.set ?_ K2n (by decide) _⟩
              rcases List.mem_append.1 hy with hy | hy
              · exact (HKK.out.2.1 y hy).grown hnA hgr'
              · obtain rfl := List.mem_singleton.1 hy
                exact HKK.out.2.2.grown hnA hgr')
            have HB2 := hid (show (Below w.heap.size w (w12.setCell ⟨w.heap.size + 1 + 1, 0, none⟩ (.slice C9 (ns ++ [x]).length f9)) ∧ w3.heap.size ≤ (w12.setCell ⟨w.heap.size + 1 + 1, 0, none⟩ (.slice C9 (ns ++ [x]).length f9)).heap.size) ∧ (ns ++ [x]).map RoA.d = ownL (rows.map RoA.d) (i + 1) from by
              have h1 : Below w.heap.size w wo := HBN.out.1.1
              have h2 := h1.trans (HBW.out.mono h1.size)
              have h3 := h2.trans (HW12.out.mono h2.size)
              have h4 := h3.grown hgr' (by have := h3.size; omega) (fun b hb => by have := hnA.lt b hb; omega)
              refine ⟨⟨h4.setCell (p := ⟨w.heap.size + 1 + 1, 0, none⟩) (by simp; omega) _, ?_⟩, ?_⟩
              · have := hgr'.size
                simp at this
                simp
                omega
              · rw [List.map_append, HBN.out.2, List.map_singleton, HXD.out]
                exact (own_succ HXE.out).symm)
            rw [← hnx]
            clear K1n K2n hown' hgr' hnx hcl HKK HXD HXE HBW HW12 HBN HST s2 sf sl
            generalize ns ++ [x] = ns2 at *
            go_wp2_with fail
            go_roundw
            case rel => exact ⟨i + 1, ns2, C9, f9, by omega, by omega, by go_num, HN, HB2⟩
            case measure => simp [intOf]; omega
    · obtain rfl : i = n := by omega
      have HF := hid (own_fin hst.out.1 hst.out.2.2.1 hst.out.2.2.2 hbn.out.1.1 hs3 (hbn.out.2.trans (own_all (by rw [List.length_map, HLN.out]) hi9)))
      have k2 : wo.cell? ⟨w.heap.size + 1 + 1, 0, none⟩ = some (.slice C ns.length f) := hst.out.2.1.cell 0
      have k1 : wo.cell? ⟨w.heap.size + 1, 0, none⟩ = some (.slice none 0 0) := hst.out.1.cell 0
      have kf : wo.frozen? ⟨w.heap.size + 1, 0, none⟩ = false := hst.out.1.frozen 0
      have kl : w.heap.size + 1 < wo.heap.size := hst.out.1.lt
      have kd := (hst.out.1.set_ 0 (.slice C ns.length f)).cell 0
      clear hst hbn hlt
      go_wp2_with fail
      refine bodyPost_ret (v := .agg #[.slice C ns.length f]) ?_ rfl HF.out
      simp [results, Try.results11, go_sem, kd]
end Go.Proofs.Ytgdnpmjmkcccoaa
namespace Go.Proofs.Ytgdnpmjmkcccoaa
open Go.RowKit Go.Shelf VB
open Go.Lib (hid)
set_option linter.unusedVariables false
set_option linter.unusedSimpArgs false
theorem typed_of_cellO {w : World} {p : Addr} {v : Value} (h : w.cell? p = some v) : ∃ e, Typed w p.block e := by
  unfold World.cell? at h
  split at h
  · rename_i cs e fr he
    exact ⟨e, cs, fr, he⟩
  · cases h
theorem flat_lenO {cells : Nat → List Value} {size : Nat} : ∀ n, (∀ i, i < n → (cells i).length = size) → ((List.range n).flatMap cells).length = n * size := by
  intro n
  induction n with
  | zero => intro _; simp
  | succ n ih =>
    intro hl
    rw [List.range_succ, List.flatMap_append, List.length_append, ih (fun i hi => hl i (by omega)), List.flatMap_singleton, hl n (by omega), Nat.succ_mul]
theorem flat_idx {cells : Nat → List Value} {size : Nat} (hs : 0 < size) : ∀ n, (∀ i, i < n → (cells i).length = size) → ∀ j u, ((List.range n).flatMap cells)[j]? = some u → j / size < n ∧ (cells (j / size))[j % size]? = some u := by
  intro n
  induction n with
  | zero => intro _ j u h; simp at h
  | succ n ih =>
    intro hl j u h
    have hL := flat_lenO (cells := cells) (size := size) n (fun i hi => hl i (by omega))
    rw [List.range_succ, List.flatMap_append, List.flatMap_singleton] at h
    by_cases hj : j < n * size
    · rw [List.getElem?_append_left (by omega)] at h
      have := ih (fun i hi => hl i (by omega)) j u h
      exact ⟨by omega, this.2⟩
    · rw [List.getElem?_append_right (by omega), hL] at h
      have hlt : j - n * size < size := by
        have := (List.getElem?_eq_some_iff.1 h).1
        rw [hl n (by omega)] at this
        exact this
      have hd : j / size = n := by
        rw [show j = (j - n * size) + n * size by omega, Nat.add_mul_div_right _ _ hs, Nat.div_eq_of_lt hlt]; omega
      have hm : j % size = j - n * size := by
        rw [show j = (j - n * size) + n * size by omega, Nat.add_mul_mod_self_right, Nat.mod_eq_of_lt (by omega)]
        omega
      rw [hd, hm]
      exact ⟨by omega, h⟩
theorem reads_of_fn {w : World} {ad : Addr} {n size : Nat} {cells : Nat → List Value} (hs : 0 < size) (hl : ∀ i, i < n → (cells i).length = size) (h : ∀ i, i < n → ∀ j u, (cells i)[j]? = some u → w.cell? (ad.add (i * size + j)) = some u) : ∃ e, Reads w e size (some ad) n ((List.range n).flatMap cells) := by
  rcases Nat.eq_zero_or_pos n with h0 | h0
  · subst h0
    exact ⟨0, by simp, fun h => absurd h (by omega)⟩
  · have hc0 : ∃ u, (cells 0)[0]? = some u := ⟨_, List.getElem?_eq_getElem (by rw [hl 0 h0]; exact hs)⟩
    obtain ⟨u0, hu0⟩ := hc0
    obtain ⟨e, he⟩ := typed_of_cellO (h 0 h0 0 u0 hu0)
    rw [block_of_add] at he
    refine ⟨e, flat_lenO n hl, fun _ => ⟨ad, rfl, he, ?_⟩⟩
    intro j u hu
    obtain ⟨hj, hx⟩ := flat_idx hs n hl j u hu
    have := h _ hj _ u hx
    rwa [Nat.div_add_mod' j size] at this
theorem map_range_len (f : Nat → Int × Int) (n : Nat) : ((List.range n).map f).length = n := by simp
theorem open_pts {H : Type} {enc : TypeId × Value → H} {w : World} {base : Nat} {held : Bool} {fuel : Nat} {v : Value} {x : DataW H × List MemPlace} (h : DataW.trod enc Try.prog w base (fun _ => true) held fuel 40 [v] = some x) :
    ∃ (A : Option Addr) (n c : Nat) (l : List (Int × Int)) (e1 : TypeId), v = .slice A n c ∧ l.length = n ∧ Reads w e1 2 A n (l.flatMap cellsP) ∧ n ≤ c ∧ c ≤ maxLen := by
  rcases Go.Deep.open_slice_pairs Try.underlying40 Try.underlying47 (by kernel_rfl) rfl rfl (by kernel_rfl) (by kernel_rfl) h with ⟨hcs, _⟩ | ⟨a, l, c, m, n, V0, V1, D0, D1, P0, P1, hcs, _, hl, hm, hmm, _, hall⟩
  · simp only [List.cons.injEq, and_true] at hcs
    exact ⟨none, 0, 0, [], 0, hcs, rfl, Reads.none_, Nat.le_refl _, Nat.zero_le _⟩
  · simp only [List.cons.injEq, and_true] at hcs
    rw [if_pos rfl] at hmm
    have h2 : ∀ i, ∃ X : Int × Int, i < l → w.cell? (a.add (i * 2)) = some (.int .i64 X.1) ∧ w.cell? (a.add (i * 2 + 1)) = some (.int .i64 X.2) := by
      intro i
      by_cases hi : i < l
      · obtain ⟨c0, c1, t0, t1⟩ := hall i (by omega)
        obtain ⟨y0, e0, _, _⟩ := DataW.trod_int Try.underlying2 t0
        obtain ⟨y1, e1, _, _⟩ := DataW.trod_int Try.underlying2 t1
        simp only [List.cons.injEq, and_true] at e0 e1
        rw [e0] at c0
        rw [e1] at c1
        exact ⟨(y0, y1), fun _ => ⟨c0, c1⟩⟩
      · exact ⟨(0, 0), fun h => absurd h hi⟩
    obtain ⟨f, hf⟩ := Classical.axiomOfChoice h2
    obtain ⟨e, he⟩ := reads_of_fn (w := w) (ad := a) (n := l) (size := 2) (cells := fun i => cellsP (f i)) (by omega) (fun i _ => rfl) (by
      intro i hi j u hu
      unfold cellsP at hu
      match j with
      | 0 => simp only [List.getElem?_cons_zero, Option.some.injEq] at hu; subst hu; exact (hf i hi).1
      | 1 => simp only [List.getElem?_cons_succ, List.getElem?_cons_zero, Option.some.injEq] at hu; subst hu; exact (hf i hi).2
      | j + 2 => simp at hu)
    refine ⟨some a, l, c, (List.range l).map f, e, hcs, map_range_len f l, ?_, hl, hm⟩
    rw [List.flatMap_map]
    exact he
theorem list1 {α : Type} {l : List α} (h : l.length = 1) : ∃ a0, l = [a0] := by
  match l, h with
  | [a0], _ => exact ⟨a0, rfl⟩
theorem list5 {α : Type} {l : List α} (h : l.length = 5) : ∃ a0 a1 a2 a3 a4, l = [a0, a1, a2, a3, a4] := by
  match l, h with
  | [a0, a1, a2, a3, a4], _ => exact ⟨a0, a1, a2, a3, a4, rfl⟩
theorem list7 {α : Type} {l : List α} (h : l.length = 7) : ∃ a0 a1 a2 a3 a4 a5 a6, l = [a0, a1, a2, a3, a4, a5, a6] := by
  match l, h with
  | [a0, a1, a2, a3, a4, a5, a6], _ => exact ⟨a0, a1, a2, a3, a4, a5, a6, rfl⟩
theorem wf_le {n : Int} (h : (Lit.int .i64 n).wf = true) : n ≤ 9223372036854775807 := by
  rw [Lit.wf_int_iff, IntKind.min_i64, IntKind.max_i64] at h; omega

theorem open_pgs {H : Type} {enc : TypeId × Value → H} {w : World} {base : Nat} {held : Bool} {fuel : Nat} {v : Value} {x : DataW H × List MemPlace} (h : DataW.trod enc Try.prog w base (fun _ => true) held fuel 43 [v] = some x) :
    ∃ (A : Option Addr) (n c : Nat) (l : List Int) (e1 : TypeId), v = .slice A n c ∧ l.length = n ∧ Reads w e1 1 A n (l.map (Value.int .i64)) ∧ n ≤ c ∧ c ≤ maxLen := by
  rcases Go.ChangeShapes.open_ints Try.underlying43 Try.underlying3 (by kernel_rfl) h with ⟨hcs, _⟩ | ⟨a, l, c, zs, hcs, _, hl, hm, hz, _, hcell, hwz⟩
  · simp only [List.cons.injEq, and_true] at hcs
    exact ⟨none, 0, 0, [], 0, hcs, rfl, Reads.none_, Nat.le_refl _, Nat.zero_le _⟩
  · simp only [List.cons.injEq, and_true] at hcs
    simp at hz
    obtain ⟨e, he⟩ := reads_of_fn (w := w) (ad := a) (n := l) (size := 1) (cells := fun i => [Value.int .i64 (zs.getD i 0)]) (by omega) (fun i _ => rfl) (by
      intro i hi j u hu
      match j with
      | 0 =>
        simp only [List.getElem?_cons_zero, Option.some.injEq] at hu
        subst hu
        rw [Nat.mul_one, Nat.add_zero]
        exact hcell i (by omega)
      | j + 1 => simp at hu)
    refine ⟨some a, l, c, (List.range l).map (fun i => zs.getD i 0), e, hcs, by simp, ?_, hl, hm⟩
    have hmap : ((List.range l).map (fun i => zs.getD i 0)).map (Value.int .i64) = (List.range l).flatMap (fun i => [Value.int .i64 (zs.getD i 0)]) := by
      rw [List.map_map]
      induction List.range l with
      | nil => rfl
      | cons x t ih => rw [List.map_cons, List.flatMap_cons, ih]; rfl
    rw [hmap]
    exact he
def EnArg (w : World) (e : EnA) : Prop := (∃ t, Reads w t 1 e.2.1 e.1.ps.length (e.1.ps.map (Value.int .i64))) ∧ (e.1.ps.length ≤ e.2.2 ∧ e.2.2 ≤ maxLen) ∧ e.1.fs ≤ 9223372036854775807
set_option maxRecDepth 100000 in
theorem open_en {H : Type} {enc : TypeId × Value → H} {w : World} {base : Nat} {held : Bool} {fuel : Nat} {cs : List Value} {x : DataW H × List MemPlace} (h : DataW.trod enc Try.prog w base (fun _ => true) held fuel 45 cs = some x) :
    ∃ e : EnA, cs = cellsN e ∧ EnArg w e := by
  obtain ⟨xs, n, _, rfl, hl, hlen, hf⟩ := DataW.trod_struct Try.underlying45 h
  rw [show Try.prog.cellsOf 45 = 5 by kernel_rfl] at hl
  obtain ⟨v0, v1, v2, v3, v4, rfl⟩ := list5 hl
  obtain ⟨y0, y1, y2, y3, y4, rfl⟩ := list5 hlen
  have g0 : DataW.trod enc Try.prog w base (fun _ => true) held n 2 [v0] = some y0 := by
    have h : DataW.trod enc Try.prog w base (fun _ => true) held n 2 (([v0, v1, v2, v3, v4].drop 0).take (Try.prog.cellsOf 2)) = _ := hf 0 _ rfl
    rw [show Try.prog.cellsOf 2 = 1 by kernel_rfl] at h
    exact h
  have g1 : DataW.trod enc Try.prog w base (fun _ => true) held n 2 [v1] = some y1 := by
    have h : DataW.trod enc Try.prog w base (fun _ => true) held n 2 (([v0, v1, v2, v3, v4].drop 1).take (Try.prog.cellsOf 2)) = _ := hf 1 _ rfl
    rw [show Try.prog.cellsOf 2 = 1 by kernel_rfl] at h
    exact h
  have g2 : DataW.trod enc Try.prog w base (fun _ => true) held n 3 [v2] = some y2 := by
    have h : DataW.trod enc Try.prog w base (fun _ => true) held n 3 (([v0, v1, v2, v3, v4].drop 2).take (Try.prog.cellsOf 3)) = _ := hf 2 _ rfl
    rw [show Try.prog.cellsOf 3 = 1 by kernel_rfl] at h
    exact h
  have g3 : DataW.trod enc Try.prog w base (fun _ => true) held n 43 [v3] = some y3 := by
    have h : DataW.trod enc Try.prog w base (fun _ => true) held n 43 (([v0, v1, v2, v3, v4].drop 3).take (Try.prog.cellsOf 43)) = _ := hf 3 _ rfl
    rw [show Try.prog.cellsOf 43 = 1 by kernel_rfl] at h
    exact h
  have g4 : DataW.trod enc Try.prog w base (fun _ => true) held n 3 [v4] = some y4 := by
    have h : DataW.trod enc Try.prog w base (fun _ => true) held n 3 (([v0, v1, v2, v3, v4].drop 4).take (Try.prog.cellsOf 3)) = _ := hf 4 _ rfl
    rw [show Try.prog.cellsOf 3 = 1 by kernel_rfl] at h
    exact h
  obtain ⟨a0, e0, _, hw0⟩ := DataW.trod_int Try.underlying2 g0
  obtain ⟨a1, e1, _, _⟩ := DataW.trod_int Try.underlying2 g1
  obtain ⟨a2, e2, _, _⟩ := DataW.trod_int Try.underlying3 g2
  obtain ⟨A, k, c, l, e, rfl, rfl, hr, h1, h2⟩ := open_pgs g3
  obtain ⟨a4, e4, _, _⟩ := DataW.trod_int Try.underlying3 g4
  simp only [List.cons.injEq, and_true] at e0 e1 e2 e4
  subst e0 e1 e2 e4
  exact ⟨(⟨a0, a1, a2, a4, l⟩, A, c), rfl, ⟨e, hr⟩, ⟨h1, h2⟩, wf_le hw0⟩
set_option maxRecDepth 100000 in
theorem open_ens {H : Type} {enc : TypeId × Value → H} {w : World} {base : Nat} {held : Bool} {fuel : Nat} {v : Value} {x : DataW H × List MemPlace} (h : DataW.trod enc Try.prog w base (fun _ => true) held fuel 39 [v] = some x) :
    ∃ (A : Option Addr) (n c : Nat) (l : List EnA), v = .slice A n c ∧ l.length = n ∧ (∃ e1, Reads w e1 5 A n (l.flatMap cellsN)) ∧ n ≤ c ∧ c ≤ maxLen ∧ ∀ q ∈ l, EnArg w q := by
  rcases Go.Deep.open_slice Try.underlying39 h with ⟨hcs, _⟩ | ⟨a, l, c, m, n, D, Pl, hcs, _, hl, hm, hmm, _, hall⟩
  · simp only [List.cons.injEq, and_true] at hcs
    exact ⟨none, 0, 0, [], hcs, rfl, ⟨0, Reads.none_⟩, Nat.le_refl _, Nat.zero_le _, fun q hq => absurd hq (by simp)⟩
  · simp only [List.cons.injEq, and_true] at hcs
    rw [if_pos rfl] at hmm
    have h2 : ∀ i, ∃ X : EnA, i < l → (∀ j u, (cellsN X)[j]? = some u → w.cell? (a.add (i * 5 + j)) = some u) ∧ EnArg w X := by
      intro i
      by_cases hi : i < l
      · obtain ⟨cs', h1, h2⟩ := hall i (by omega)
        obtain ⟨mu, rfl, hr⟩ := open_en h2
        rw [show Try.prog.cellsOf 45 = 5 by kernel_rfl] at h1
        obtain ⟨_, hlen, hcell⟩ := World.cells?_some h1
        refine ⟨mu, fun _ => ⟨?_, hr⟩⟩
        intro j u hu
        have hj : j < 5 := (List.getElem?_eq_some_iff.1 hu).1
        have := hcell j hj
        rw [add_of_add] at this
        rw [this]
        exact hu
      · exact ⟨(⟨0, 0, 0, 0, []⟩, none, 0), fun h => absurd h hi⟩
    obtain ⟨f, hf⟩ := Classical.axiomOfChoice h2
    obtain ⟨e, he⟩ := reads_of_fn (w := w) (ad := a) (n := l) (size := 5) (cells := fun i => cellsN (f i)) (by omega) (fun i _ => rfl) (fun i hi j u hu => (hf i hi).1 j u hu)
    refine ⟨some a, l, c, (List.range l).map f, hcs, by simp, ⟨e, ?_⟩, hl, hm, ?_⟩
    · rw [List.flatMap_map]
      exact he
    · intro q hq
      obtain ⟨i, hi, rfl⟩ := List.mem_map.1 hq
      exact (hf i (List.mem_range.1 hi)).2

set_option maxRecDepth 100000 in
theorem open_ro {H : Type} {enc : TypeId × Value → H} {w : World} {base : Nat} {held : Bool} {fuel : Nat} {cs : List Value} {x : DataW H × List MemPlace} (h : DataW.trod enc Try.prog w base (fun _ => true) held fuel 42 cs = some x) :
    ∃ r : RoA, cs = cellsR r ∧ RoArg w r := by
  obtain ⟨xs, n, _, rfl, hl, hlen, hf⟩ := DataW.trod_struct Try.underlying42 h
  rw [show Try.prog.cellsOf 42 = 7 by kernel_rfl] at hl
  obtain ⟨v0, v1, v2, v3, v4, v5, v6, rfl⟩ := list7 hl
  obtain ⟨y0, y1, y2, y3, y4, y5, y6, rfl⟩ := list7 hlen
  have g0 : DataW.trod enc Try.prog w base (fun _ => true) held n 9 [v0] = some y0 := by
    have h : DataW.trod enc Try.prog w base (fun _ => true) held n 9 (([v0, v1, v2, v3, v4, v5, v6].drop 0).take (Try.prog.cellsOf 9)) = _ := hf 0 _ rfl
    rw [show Try.prog.cellsOf 9 = 1 by kernel_rfl] at h
    exact h
  have g1 : DataW.trod enc Try.prog w base (fun _ => true) held n 2 [v1] = some y1 := by
    have h : DataW.trod enc Try.prog w base (fun _ => true) held n 2 (([v0, v1, v2, v3, v4, v5, v6].drop 1).take (Try.prog.cellsOf 2)) = _ := hf 1 _ rfl
    rw [show Try.prog.cellsOf 2 = 1 by kernel_rfl] at h
    exact h
  have g2 : DataW.trod enc Try.prog w base (fun _ => true) held n 2 [v2] = some y2 := by
    have h : DataW.trod enc Try.prog w base (fun _ => true) held n 2 (([v0, v1, v2, v3, v4, v5, v6].drop 2).take (Try.prog.cellsOf 2)) = _ := hf 2 _ rfl
    rw [show Try.prog.cellsOf 2 = 1 by kernel_rfl] at h
    exact h
  have g3 : DataW.trod enc Try.prog w base (fun _ => true) held n 2 [v3] = some y3 := by
    have h : DataW.trod enc Try.prog w base (fun _ => true) held n 2 (([v0, v1, v2, v3, v4, v5, v6].drop 3).take (Try.prog.cellsOf 2)) = _ := hf 3 _ rfl
    rw [show Try.prog.cellsOf 2 = 1 by kernel_rfl] at h
    exact h
  have g4 : DataW.trod enc Try.prog w base (fun _ => true) held n 3 [v4] = some y4 := by
    have h : DataW.trod enc Try.prog w base (fun _ => true) held n 3 (([v0, v1, v2, v3, v4, v5, v6].drop 4).take (Try.prog.cellsOf 3)) = _ := hf 4 _ rfl
    rw [show Try.prog.cellsOf 3 = 1 by kernel_rfl] at h
    exact h
  have g5 : DataW.trod enc Try.prog w base (fun _ => true) held n 39 [v5] = some y5 := by
    have h : DataW.trod enc Try.prog w base (fun _ => true) held n 39 (([v0, v1, v2, v3, v4, v5, v6].drop 5).take (Try.prog.cellsOf 39)) = _ := hf 5 _ rfl
    rw [show Try.prog.cellsOf 39 = 1 by kernel_rfl] at h
    exact h
  have g6 : DataW.trod enc Try.prog w base (fun _ => true) held n 40 [v6] = some y6 := by
    have h : DataW.trod enc Try.prog w base (fun _ => true) held n 40 (([v0, v1, v2, v3, v4, v5, v6].drop 6).take (Try.prog.cellsOf 40)) = _ := hf 6 _ rfl
    rw [show Try.prog.cellsOf 40 = 1 by kernel_rfl] at h
    exact h
  obtain ⟨a0, e0, _, _⟩ := DataW.trod_string Try.underlying9 g0
  obtain ⟨a1, e1, _, _⟩ := DataW.trod_int Try.underlying2 g1
  obtain ⟨a2, e2, _, _⟩ := DataW.trod_int Try.underlying2 g2
  obtain ⟨a3, e3, _, _⟩ := DataW.trod_int Try.underlying2 g3
  obtain ⟨a4, e4, _, _⟩ := DataW.trod_int Try.underlying3 g4
  obtain ⟨EA, ek, ec, en, rfl, rfl, her, hec, hem, hens⟩ := open_ens g5
  obtain ⟨OA, ok, oc, op, oe, rfl, rfl, hor, hoc, hom⟩ := open_pts g6
  simp only [List.cons.injEq, and_true] at e0 e1 e2 e3 e4
  subst e0 e1 e2 e3 e4
  exact ⟨⟨a0, a1, a2, a3, a4, en, EA, ec, op, OA, oc⟩, rfl, her, ⟨hec, hem⟩, hens, ⟨oe, hor⟩, ⟨hoc, hom⟩⟩
set_option maxRecDepth 100000 in
theorem open_ros {H : Type} {enc : TypeId × Value → H} {w : World} {base : Nat} {held : Bool} {fuel : Nat} {v : Value} {x : DataW H × List MemPlace} (h : DataW.trod enc Try.prog w base (fun _ => true) held fuel 22 [v] = some x) :
    ∃ (A : Option Addr) (n c : Nat) (l : List RoA), v = .slice A n c ∧ l.length = n ∧ (∃ e1, Reads w e1 7 A n (l.flatMap cellsR)) ∧ n ≤ c ∧ c ≤ maxLen ∧ ∀ q ∈ l, RoArg w q := by
  rcases Go.Deep.open_slice Try.underlying22 h with ⟨hcs, _⟩ | ⟨a, l, c, m, n, D, Pl, hcs, _, hl, hm, hmm, _, hall⟩
  · simp only [List.cons.injEq, and_true] at hcs
    exact ⟨none, 0, 0, [], hcs, rfl, ⟨0, Reads.none_⟩, Nat.le_refl _, Nat.zero_le _, fun q hq => absurd hq (by simp)⟩
  · simp only [List.cons.injEq, and_true] at hcs
    rw [if_pos rfl] at hmm
    have h2 : ∀ i, ∃ X : RoA, i < l → (∀ j u, (cellsR X)[j]? = some u → w.cell? (a.add (i * 7 + j)) = some u) ∧ RoArg w X := by
      intro i
      by_cases hi : i < l
      · obtain ⟨cs', h1, h2⟩ := hall i (by omega)
        obtain ⟨mu, rfl, hr⟩ := open_ro h2
        rw [show Try.prog.cellsOf 42 = 7 by kernel_rfl] at h1
        obtain ⟨_, hlen, hcell⟩ := World.cells?_some h1
        refine ⟨mu, fun _ => ⟨?_, hr⟩⟩
        intro j u hu
        have hj : j < 7 := (List.getElem?_eq_some_iff.1 hu).1
        have := hcell j hj
        rw [add_of_add] at this
        rw [this]
        exact hu
      · exact ⟨⟨⟨#[]⟩, 0, 0, 0, 0, [], none, 0, [], none, 0⟩, fun h => absurd h hi⟩
    obtain ⟨f, hf⟩ := Classical.axiomOfChoice h2
    obtain ⟨e, he⟩ := reads_of_fn (w := w) (ad := a) (n := l) (size := 7) (cells := fun i => cellsR (f i)) (by omega) (fun i _ => rfl) (fun i hi j u hu => (hf i hi).1 j u hu)
    refine ⟨some a, l, c, (List.range l).map f, hcs, by simp, ⟨e, ?_⟩, hl, hm, ?_⟩
    · rw [List.flatMap_map]
      exact he
    · intro q hq
      obtain ⟨i, hi, rfl⟩ := List.mem_map.1 hq
      exact (hf i (List.mem_range.1 hi)).2

set_option maxRecDepth 100000 in
theorem open_man {H : Type} {enc : TypeId × Value → H} {w : World} {r : Reach} {b0 base : Nat} {held : Bool} {v : Value} {d : DataW H} {p : List MemPlace} (hv : Value.okWide Try.prog w r b0 24 v) (h : DataW.Trod enc Try.prog w base (fun _ => true) held 24 v d p) :
    ∃ (A : Option Addr) (n c : Nat) (l : List RoA), v = .agg #[.slice A n c] ∧ MArg w A n c l := by
  obtain ⟨cs0, rfl, hsz⟩ := Go.WideShapes.okWide_struct Try.underlying24 hv
  obtain ⟨fuel, h⟩ := h
  obtain ⟨q⟩ := cs0
  simp only [Value.cells] at h
  obtain ⟨xs, n, _, hq, hl, hlen, hf⟩ := DataW.trod_struct Try.underlying24 h
  rw [show Try.prog.cellsOf 24 = 1 by kernel_rfl] at hl
  obtain ⟨v0, rfl⟩ := list1 hl
  obtain ⟨y0, rfl⟩ := list1 hlen
  have g0 : DataW.trod enc Try.prog w base (fun _ => true) held n 22 [v0] = some y0 := by
    have h : DataW.trod enc Try.prog w base (fun _ => true) held n 22 (([v0].drop 0).take (Try.prog.cellsOf 22)) = _ := hf 0 _ rfl
    rw [show Try.prog.cellsOf 22 = 1 by kernel_rfl] at h
    exact h
  obtain ⟨A, k, c, l, rfl, hl2, hr, h1, h2, h3⟩ := open_ros g0
  exact ⟨A, k, c, l, rfl, hr, h3, h1, h2⟩
end Go.Proofs.Ytgdnpmjmkcccoaa
namespace Go.Proofs.Ytgdnpmjmkcccoaa
open Go.RowKit Go.Shelf VB
open Go.Lib (hid)
set_option linter.unusedVariables false
set_option linter.unusedSimpArgs false
theorem MArg.below {w w' : World} {A : Option Addr} {n c : Nat} {l : List RoA} (h : MArg w A n c l) (hb : Below w.heap.size w w') : MArg w' A n c l :=
  ⟨h.rows.elim fun e k => ⟨e, k.below hb⟩, fun x hx => (h.each x hx).below hb, h.hn, h.hc⟩
theorem vbI_byte (z : Int) : ∀ x ∈ vbI z, x < 256 := vb_byte _
theorem entB_byte (ah : Int) (e : En) : ∀ x ∈ entB ah e, x < 256 := by
  intro x hx
  unfold entB at hx
  rcases List.mem_append.1 hx with hx | hx
  · obtain ⟨z, _, h⟩ := List.mem_flatMap.1 hx; exact vbI_byte z x h
  · obtain ⟨z, _, h⟩ := List.mem_flatMap.1 hx; exact vbI_byte z x h
theorem ensB_byte : ∀ (l : List En) (ah : Int), ∀ x ∈ ensB ah l, x < 256
  | [], _, x, hx => by simp [ensB] at hx
  | e :: l, ah, x, hx => by
    unfold ensB at hx
    rcases List.mem_append.1 hx with hx | hx
    · exact entB_byte _ _ x hx
    · exact ensB_byte l _ x hx
theorem ptsB2_byte : ∀ (l : List (Int × Int)) (was : Int × Int), ∀ x ∈ ptsB2 was l, x < 256
  | [], _, x, hx => by simp [ptsB2] at hx
  | p :: l, was, x, hx => by
    unfold ptsB2 ptB2 at hx
    rcases List.mem_append.1 hx with hx | hx
    · rcases List.mem_append.1 hx with hx | hx
      · obtain ⟨z, _, h⟩ := List.mem_flatMap.1 hx; exact vbI_byte z x h
      · exact vb_byte _ x hx
    · exact ptsB2_byte l _ x hx
theorem rowBy_byte {r : Ro} (h : RowOk r) : ∀ x ∈ rowBy r, x < 256 := by
  intro x hx
  have hn := h.fit.nm
  have hfm : ∀ l : List Int, ∀ x ∈ l.flatMap vbI, x < 256 := fun l x hx => by obtain ⟨z, _, h⟩ := List.mem_flatMap.1 hx; exact vbI_byte z x h
  unfold rowBy at hx
  simp only [List.mem_append] at hx
  rcases hx with hx | hx | hx | hx | hx | hx | hx
  · rcases List.mem_cons.1 hx with rfl | hx
    · omega
    · unfold nmL at hx
      obtain ⟨b, _, rfl⟩ := List.mem_map.1 hx
      exact b.toNat_lt
  · exact hfm _ x hx
  · exact vb_byte _ x hx
  · exact hfm _ x hx
  · exact ensB_byte _ _ x hx
  · exact hfm _ x hx
  · exact ptsB2_byte _ _ x hx
theorem manBy_byte {l : List Ro} (h : ManOk l) : ∀ x ∈ manBy l, x < 256 := by
  intro x hx
  unfold manBy at hx
  rcases List.mem_append.1 hx with hx | hx
  · obtain ⟨z, _, h⟩ := List.mem_flatMap.1 hx; exact vbI_byte z x h
  · obtain ⟨r, hr, hx⟩ := List.mem_flatMap.1 hx; exact rowBy_byte (h.rows r hr) x hx
/-- what Encode hands back for a manifest that may be -/
def RetEncR (l : List Nat) (n : Nat) (w : World) (e : Ending) (w' : World) : Prop :=
  ∃ C f, e = .returned (.tuple #[.slice C n f, .int .i64 0]) ∧ Below w.heap.size w w' ∧ Reads w' 5 1 C n (bsV l) ∧ n ≤ f ∧ f ≤ maxLen
def RetEncW (w : World) (e : Ending) (w' : World) : Prop := e = .returned (.tuple #[.slice none 0 0, .int .i64 320]) ∧ Below w.heap.size w w'
theorem encM_right {l : List Ro} {w w' : World} {e : Ending} (h : RetEnc l w e w') (ho : manOk l = true) {n : Nat} (hn : (manBy l).length = n) : RetEncR (manBy l) n w e w' := by
  unfold RetEnc at h
  rw [if_pos ho, hn] at h
  obtain ⟨C, f, he, hb, ho⟩ := h
  unfold OwnY at hb
  rw [hn] at hb
  obtain ⟨_, _, hv, hf1, hf2⟩ := own_form hb
  injection hv with hv1 hv2 hv3
  exact ⟨C, f, he, ho, Reads.of_own hb, by omega, by omega⟩
theorem encM_wrong {l : List Ro} {w w' : World} {e : Ending} (h : RetEnc l w e w') (ho : manOk l = false) : RetEncW w e w' := by
  unfold RetEnc at h
  rw [if_neg (by rw [ho]; decide)] at h
  exact h
theorem not_preM {a b : List Ro} (ha : ManOk a) (hb : ManOk b) (ob : manOk b = true) (hne : ¬ a = b) {n : Nat} (hn : n = (manBy a).length) : decide ((manBy b).take n = manBy a) = false :=
  decide_eq_false fun h => hne (man_free (r := (manBy b).drop n) ha hb ob (by rw [← h, List.take_append_drop]))
theorem src_of {w : World} {C : Option Addr} {n f : Nat} {l : List Nat} (h : Reads w 5 1 C n (bsV l)) (h1 : n ≤ f) (h2 : f ≤ maxLen) (hl : n ≤ 1000000) (hb : ∀ x ∈ l, x < 256) : Src w C n f l := ⟨h, hl, h1, h2, hb⟩
theorem ownN {l : List Ro} {w w' : World} {e : Ending} (h : RetOwn22 l w e w') : ∃ (ns : List RoA) (k : Nat) (C : Option Addr) (f : Nat), ns.map RoA.d = ownL l 9 ∧ e = .returned (.agg #[.slice C k f]) ∧ ManIn w' C k f ns ∧ Below w.heap.size w w' ∧ (w'.ownsRow w.heap.size 42 7 (.slice C k f) k (ns.flatMap cellsR) ∧ ∀ x ∈ ns, RoFr w' x) ∧ k ≤ 9 := by
  obtain ⟨ns, C, f, h1, h2, h3, h4, h5⟩ := h
  have hl : ns.length ≤ 9 := by
    have := congrArg List.length h1
    unfold ownL at this
    rw [List.length_map, List.length_map, List.length_take] at this
    omega
  exact ⟨ns, ns.length, C, f, h1, h2, ⟨⟨_, Reads.of_own h3⟩, fun x hx => (h4 x hx).inn, by omega⟩, h5, ⟨h3, h4⟩, hl⟩
end Go.Proofs.Ytgdnpmjmkcccoaa
namespace Go.Proofs.Ytgdnpmjmkcccoaa
open Go.RowKit Go.Shelf
open Go.Lib (hid)
set_option linter.unusedVariables false
set_option linter.unusedSimpArgs false
abbrev vN (x : EnA) : Value := .agg #[.int .i64 x.1.fs, .int .i64 x.1.ls, .int .i64 x.1.ct, .slice x.2.1 x.1.ps.length x.2.2, .int .i64 x.1.by_]
/-- what a halving finds -/
def bsr (p : En → Bool) (l : List En) : Nat → Nat → Nat → Nat
  | 0, lo, _ => lo
  | k + 1, lo, hi => if lo < hi then (if (l[(lo + hi) / 2]?).any p = true then bsr p l k lo ((lo + hi) / 2) else bsr p l k ((lo + hi) / 2 + 1) hi) else lo
theorem bsr_done (p : En → Bool) (l : List En) {k lo hi : Nat} (h : hi ≤ lo) : bsr p l k lo hi = lo := by
  cases k with
  | zero => rfl
  | succ k => rw [bsr, if_neg (by omega)]
/-- a closure that tells of an entry what p says -/
def Tells (w : World) (g : Nat) (cb : Array Value) (l : List EnA) (p : En → Bool) : Prop :=
  ∀ x ∈ l, ∀ W, Below w.heap.size w W → Calls Try.prog g (#[vN x] ++ cb) W fun e w' => e = .returned (.bool (p x.1)) ∧ Below W.heap.size W w'
set_option maxHeartbeats 400000 in
theorem f1_c (x : EnA) (t : Int) (bx : Nat) (w : World) (h : w.cell? ⟨bx, 0, none⟩ = some (.int .i64 t)) :
    Calls Try.prog 97 #[vN x, .pointer (some ⟨bx, 0, none⟩)] w fun e w' => e = .returned (.bool (decide (t ≤ x.1.ls))) ∧ Below w.heap.size w w' := by
  obtain ⟨⟨fs, ls, ct, by_, ps⟩, pa, pc⟩ := x
  have hlt := World.block_lt_of_cell? _ _ h
  have HB := hid ((Below.refl w.heap.size w).alloc (Nat.le_refl _) (.cells #[.int .i64 fs, .int .i64 ls, .int .i64 ct, .slice pa ps.length pc, .int .i64 by_] 45))
  have c1 : (w.alloc (.cells #[.int .i64 fs, .int .i64 ls, .int .i64 ct, .slice pa ps.length pc, .int .i64 by_] 45)).cell? ⟨bx, 0, none⟩ = some (.int .i64 t) := by rw [HB.out.cell hlt]; exact h
  clear h
  go_enter Try.func97, Try.ntmps97
  go_wp2
  go_ret
  exact ⟨by simp, HB.out⟩
set_option maxHeartbeats 400000 in
theorem f2_c (x : EnA) (t : Int) (bx : Nat) (w : World) (h : w.cell? ⟨bx, 0, none⟩ = some (.int .i64 t)) :
    Calls Try.prog 98 #[vN x, .pointer (some ⟨bx, 0, none⟩)] w fun e w' => e = .returned (.bool (decide (t < x.1.fs))) ∧ Below w.heap.size w w' := by
  obtain ⟨⟨fs, ls, ct, by_, ps⟩, pa, pc⟩ := x
  have hlt := World.block_lt_of_cell? _ _ h
  have HB := hid ((Below.refl w.heap.size w).alloc (Nat.le_refl _) (.cells #[.int .i64 fs, .int .i64 ls, .int .i64 ct, .slice pa ps.length pc, .int .i64 by_] 45))
  have c1 : (w.alloc (.cells #[.int .i64 fs, .int .i64 ls, .int .i64 ct, .slice pa ps.length pc, .int .i64 by_] 45)).cell? ⟨bx, 0, none⟩ = some (.int .i64 t) := by rw [HB.out.cell hlt]; exact h
  clear h
  go_enter Try.func98, Try.ntmps98
  go_wp2
  go_ret
  exact ⟨by simp, HB.out⟩
set_option maxRecDepth 100000 in
set_option maxHeartbeats 4000000 in
theorem first_c {e1 : TypeId} (A : Option Addr) (n c : Nat) (l : List EnA) (g : Nat) (cb : Array Value) (p : En → Bool) (w : World) (hl : Reads w e1 5 A n (l.flatMap cellsN)) (hn : n ≤ 100000000) (ht : Tells w g cb l p) (eg : ∀ args w, (callFunc g args).run Try.prog w = .ok (.enter g args) w) :
    Calls Try.prog 96 #[.slice A n c, .func (.func g) #[] cb] w fun e w' => e = .returned (.int .i64 ((bsr p (l.map Prod.fst) n 0 n : Nat) : Int)) ∧ Below w.heap.size w w' := by
  obtain ⟨R, hR0⟩ : ∃ R, R = bsr p (l.map Prod.fst) n 0 n := ⟨_, rfl⟩
  rw [← hR0]
  have HL := hid hl
  have HT := hid ht
  have HR0 := hid hR0
  clear hl ht hR0
  go_enter Try.func96, Try.ntmps96
  go_wp2
  refine wp_scope_jumps 0 (fun a' wr => Below w.heap.size w wr ∧ ∃ (lo hi fuel : Nat) (u4 u7 u10 u11 u12 u13 u14 u15 u16 u17 u18 u19 u20 u21 u22 u23 u24 u25 : Value), a' = { tmps := #[.slice A n c, .func (.func g) #[] cb, undef, undef, u4, .int .i64 lo, .int .i64 hi, u7, .slice A n c, .int .i64 n, u10, u11, u12, u13, u14, u15, u16, u17, u18, u19, u20, u21, u22, u23, u24, u25, undef], defers := [] } ∧ hi ≤ n ∧ hi - lo ≤ fuel ∧ Hid (R = bsr p (l.map Prod.fst) fuel lo hi)) (fun a' _ => (intOf (a'.tmps.getD 6 undef)).toNat - (intOf (a'.tmps.getD 5 undef)).toNat) rfl ?_ ?_
  · go_wp2
    go_step3
    by_cases hlt : 0 < n
    · obtain ⟨fu, hfu⟩ : ∃ fu, n = fu + 1 := ⟨n - 1, by omega⟩
      obtain ⟨mid, hmid⟩ : ∃ mid, mid = (0 + n) / 2 := ⟨_, rfl⟩
      have hm1 : (0 ≤ mid ∧ mid < n) ∧ n - 0 ≤ fu + 1 := by omega
      obtain ⟨ad, x, rfl, hx, hxl, c0, c1, c2, c3, c4⟩ := en_at (HL.out.below (Below.refl _ _)) (show mid < n by omega)
      have hst : R = bsr p (l.map Prod.fst) (fu + 1) 0 n := by rw [← hfu]; exact HR0.out
      rw [bsr, if_pos hlt, ← hmid, show (l.map Prod.fst)[mid]? = some x.1 by rw [List.getElem?_map, hx]; rfl] at hst
      have HST := hid hst
      have HC := hid (HT.out x (List.mem_of_getElem? hx) w (Below.refl _ _))
      have hq : ((n : Int)).tdiv 2 = (mid : Int) := by rw [Int.tdiv_eq_ediv_of_nonneg (by omega), hmid]; omega
      have hltI : (0 : Int) < (n : Int) := by omega
      have hmI : (mid : Int) < (n : Int) := by omega
      have hm0 : (0 : Int) ≤ (mid : Int) := by omega
      have HMM := hid hm1
      have HHB := hid (show Below w.heap.size w w from (Below.refl _ _))
      clear hx hxl hst hmid hm1 hfu
      go_wp2_with fail
      refine HC.out.mono ?_
      rintro e w2 ⟨rfl, hb2⟩
      have HB2 := hid (HHB.out.trans (hb2.mono HHB.out.size))
      clear hb2 HC c0 c1 c2 c3 c4 HHB
      cases hp : p x.1 with
      | true =>
        have HS2 := hid (show R = bsr p (l.map Prod.fst) fu 0 mid by rw [HST.out]; simp [hp])
        clear HST hp
        go_wp2_with fail
        go_step3
        exact ⟨rfl, HB2.out, 0, mid, fu, _, _, _, _, _, _, _, _, _, _, _, _, _, _, _, _, _, _, rfl, by have := HMM.out; omega, by have := HMM.out; omega, HS2⟩
      | false =>
        have HS2 := hid (show R = bsr p (l.map Prod.fst) fu (mid + 1) n by rw [HST.out]; simp [hp])
        clear HST hp
        go_wp2_with fail
        go_step3
        exact ⟨rfl, HB2.out, (mid + 1), n, fu, _, _, _, _, _, _, _, _, _, _, _, _, _, _, _, _, _, _, rfl, by have := HMM.out; omega, by have := HMM.out; omega, HS2⟩
    · have HR := hid (show R = 0 by rw [HR0.out]; exact bsr_done _ _ (by omega))
      have HHB := hid (show Below w.heap.size w w from (Below.refl _ _))
      have hltI : ¬ (0 : Int) < (n : Int) := by omega
      clear HR0
      go_wp2_with fail
      simp only [Exit.jump]
      go_ret
      exact ⟨by rw [HR.out]; rfl, HHB.out⟩
  · rintro a' wr ⟨hb, lo, hi, fuel, u4, u7, u10, u11, u12, u13, u14, u15, u16, u17, u18, u19, u20, u21, u22, u23, u24, u25, rfl, hhi, hfl, hR⟩
    by_cases hlt : lo < hi
    · obtain ⟨fu, hfu⟩ : ∃ fu, fuel = fu + 1 := ⟨fuel - 1, by omega⟩
      obtain ⟨mid, hmid⟩ : ∃ mid, mid = (lo + hi) / 2 := ⟨_, rfl⟩
      have hm1 : (lo ≤ mid ∧ mid < hi) ∧ hi - lo ≤ fu + 1 := by omega
      obtain ⟨ad, x, rfl, hx, hxl, c0, c1, c2, c3, c4⟩ := en_at (HL.out.below hb) (show mid < n by omega)
      have hst : R = bsr p (l.map Prod.fst) (fu + 1) lo hi := by rw [← hfu]; exact hR.out
      rw [bsr, if_pos hlt, ← hmid, show (l.map Prod.fst)[mid]? = some x.1 by rw [List.getElem?_map, hx]; rfl] at hst
      have HST := hid hst
      have HC := hid (HT.out x (List.mem_of_getElem? hx) wr hb)
      have hq : ((lo : Int) + (hi : Int)).tdiv 2 = (mid : Int) := by rw [Int.tdiv_eq_ediv_of_nonneg (by omega), hmid]; omega
      have hltI : (lo : Int) < (hi : Int) := by omega
      have hmI : (mid : Int) < (n : Int) := by omega
      have hm0 : (0 : Int) ≤ (mid : Int) := by omega
      have HMM := hid hm1
      have HHB := hid (show Below w.heap.size w wr from hb)
      clear hx hxl hst hmid hm1 hfu hR hfl
      go_wp2_with fail
      refine HC.out.mono ?_
      rintro e w2 ⟨rfl, hb2⟩
      have HB2 := hid (HHB.out.trans (hb2.mono HHB.out.size))
      clear hb2 HC c0 c1 c2 c3 c4 HHB hb
      cases hp : p x.1 with
      | true =>
        have HS2 := hid (show R = bsr p (l.map Prod.fst) fu lo mid by rw [HST.out]; simp [hp])
        clear HST hp
        go_wp2_with fail
        go_step3
        exact ⟨rfl, ⟨HB2.out, lo, mid, fu, _, _, _, _, _, _, _, _, _, _, _, _, _, _, _, _, _, _, rfl, by have := HMM.out; omega, by have := HMM.out; omega, HS2⟩, by have := HMM.out; simp [intOf]; omega⟩
      | false =>
        have HS2 := hid (show R = bsr p (l.map Prod.fst) fu (mid + 1) hi by rw [HST.out]; simp [hp])
        clear HST hp
        go_wp2_with fail
        go_step3
        exact ⟨rfl, ⟨HB2.out, (mid + 1), hi, fu, _, _, _, _, _, _, _, _, _, _, _, _, _, _, _, _, _, _, rfl, by have := HMM.out; omega, by have := HMM.out; omega, HS2⟩, by have := HMM.out; simp [intOf]; omega⟩
    · have HR := hid (show R = lo by rw [hR.out]; exact bsr_done _ _ (by omega))
      have HHB := hid (show Below w.heap.size w wr from hb)
      have hltI : ¬ (lo : Int) < (hi : Int) := by omega
      clear hR hfl hb HR0
      go_wp2_with fail
      simp only [Exit.jump]
      go_ret
      exact ⟨by rw [HR.out]; rfl, HHB.out⟩
end Go.Proofs.Ytgdnpmjmkcccoaa
namespace Go.Proofs.Ytgdnpmjmkcccoaa
open Go.RowKit Go.Shelf
open Go.Lib (hid)
set_option linter.unusedVariables false
set_option linter.unusedSimpArgs false
def fromL (l : List En) (a : Int) : Nat := bsr (fun e => decide (a ≤ e.ls)) l l.length 0 l.length
def toL (l : List En) (b : Int) : Nat := bsr (fun e => decide (b < e.fs)) l l.length 0 l.length
theorem enters_f1 : ∀ args w, (callFunc 97 args).run Try.prog w = .ok (.enter 97 args) w := enters_of Try.func97 (by kernel_rfl) rfl
theorem enters_f2 : ∀ args w, (callFunc 98 args).run Try.prog w = .ok (.enter 98 args) w := enters_of Try.func98 (by kernel_rfl) rfl
/-- an index in memory that may be -/
structure IxIn (w : World) (A : Option Addr) (n c : Nat) (l : List EnA) : Prop where
  rd : ∃ e, Reads w e 5 A n (l.flatMap cellsN)
  ens : EnsIn w l
  hn : n ≤ 100000
  hp : (l.flatMap (fun x => x.1.ps)).length ≤ 900000
theorem IxIn.below {w w' : World} {A : Option Addr} {n c : Nat} {l : List EnA} (h : IxIn w A n c l) (hb : Below w.heap.size w w') : IxIn w' A n c l :=
  ⟨h.rd.elim fun e k => ⟨e, k.below hb⟩, h.ens.below hb, h.hn, h.hp⟩
theorem IxIn.len {w : World} {A : Option Addr} {n c : Nat} {l : List EnA} (h : IxIn w A n c l) : l.length = n := by
  obtain ⟨e, k⟩ := h.rd
  have := k.1
  rw [recs_len cellsN_len] at this
  omega
theorem may_ix {w : World} {A : Option Addr} {n c : Nat} {l : List EnA} (h : IxIn w A n c l) {b : Bool} (hm : mayB (l.map Prod.fst) [] none = b) :
    Calls Try.prog 67 #[.slice A n c] w fun e w' => e = .returned (.bool b) ∧ Below w.heap.size w w' := by
  obtain ⟨e, k⟩ := h.rd
  rw [← hm]
  exact may_c k h.ens h.hn h.hp
set_option maxRecDepth 100000 in
set_option maxHeartbeats 2000000 in
theorem Find_c (A : Option Addr) (n c : Nat) (l : List EnA) (a b : Int) (w : World) (h : IxIn w A n c l) (hm : mayB (l.map Prod.fst) [] none = true) :
    Calls Try.prog 60 #[.slice A n c, .int .i64 a, .int .i64 b] w fun e w' => e = .returned (.tuple #[.int .i64 (fromL (l.map Prod.fst) a : Nat), .int .i64 (max (fromL (l.map Prod.fst) a) (toL (l.map Prod.fst) b) : Nat)]) ∧ Below w.heap.size w w' := by
  have hln := h.len
  obtain ⟨r1, hr1⟩ : ∃ r1, r1 = fromL (l.map Prod.fst) a := ⟨_, rfl⟩
  obtain ⟨r2, hr2⟩ : ∃ r2, r2 = toL (l.map Prod.fst) b := ⟨_, rfl⟩
  rw [← hr1, ← hr2]
  obtain ⟨w0, hw0⟩ : ∃ w0, w0 = (w.alloc (.cells #[.int .i64 a] 2)).alloc (.cells #[.int .i64 b] 2) := ⟨_, rfl⟩
  have KA := hid (show Blk w0 w.heap.size 2 #[.int .i64 a] by rw [hw0]; exact (Blk.new _ _ _).alloc _)
  have KB := hid (show Blk w0 (w.heap.size + 1) 2 #[.int .i64 b] by rw [hw0]; exact Blk.new_at _ _ _ (by simp))
  have HB := hid (show Below w.heap.size w w0 by rw [hw0]; exact ((Below.refl _ _).alloc (Nat.le_refl _) _).alloc (by simp) _)
  have HM := hid (may_ix (h.below HB.out) hm)
  have HH := hid h
  have HR := hid (And.intro hr1 hr2)
  have HLN := hid hln
  have HW0 := hid hw0
  clear h hm hr1 hr2 hln hw0
  go_enter Try.func60, Try.ntmps60
  go_wp2_with fail
  rw [← HW0.out]
  refine HM.out.mono ?_
  rintro e w1 ⟨rfl, hb1⟩
  have HB1 := hid (HB.out.trans (hb1.mono HB.out.size))
  have KB1 := hid (KB.out.under hb1)
  obtain ⟨e5, hrd⟩ := (HH.out.below HB1.out).rd
  have HF1 := hid (first_c A n c l 97 #[.pointer (some ⟨w.heap.size, 0, none⟩)] (fun e => decide (a ≤ e.ls)) w1 hrd (Nat.le_trans HH.out.hn (by decide)) (fun x _ W hW => f1_c x a _ W (((KA.out.under hb1).under hW).cell 0)) enters_f1)
  rw [show bsr (fun e => decide (a ≤ e.ls)) (l.map Prod.fst) n 0 n = r1 by rw [HR.out.1]; unfold fromL; rw [List.length_map, HLN.out]] at HF1
  clear hb1 HM hrd
  go_wp2_with fail
  refine HF1.out.mono ?_
  rintro e w2 ⟨rfl, hb2⟩
  have HB2 := hid (HB1.out.trans (hb2.mono HB1.out.size))
  obtain ⟨e6, hrd⟩ := (HH.out.below HB2.out).rd
  have HF2 := hid (first_c A n c l 98 #[.pointer (some ⟨w.heap.size + 1, 0, none⟩)] (fun e => decide (b < e.fs)) w2 hrd (Nat.le_trans HH.out.hn (by decide)) (fun x _ W hW => f2_c x b _ W (((KB1.out.under hb2).under hW).cell 0)) enters_f2)
  rw [show bsr (fun e => decide (b < e.fs)) (l.map Prod.fst) n 0 n = r2 by rw [HR.out.2]; unfold toL; rw [List.length_map, HLN.out]] at HF2
  clear hb2 HF1 hrd
  go_wp2_with fail
  refine HF2.out.mono ?_
  rintro e w3 ⟨rfl, hb3⟩
  have HB3 := hid (HB2.out.trans (hb3.mono HB2.out.size))
  clear hb3 HF2
  go_wp2_with fail
  go_ret2
  exact ⟨by rw [show ((max r1 r2 : Nat) : Int) = max (r1 : Int) (r2 : Int) by omega]; rfl, HB3.out⟩
set_option maxHeartbeats 400000 in
theorem At_c (A : Option Addr) (n c : Nat) (l : List EnA) (a : Int) (w : World) (h : IxIn w A n c l) (hm : mayB (l.map Prod.fst) [] none = true) (hne : fromL (l.map Prod.fst) a < toL (l.map Prod.fst) a) :
    Calls Try.prog 61 #[.slice A n c, .int .i64 a] w fun e w' => e = .returned (.tuple #[.int .i64 (fromL (l.map Prod.fst) a : Nat), .bool true]) ∧ Below w.heap.size w w' := by
  have HF := hid (Find_c A n c l a a w h hm)
  rw [show max (fromL (l.map Prod.fst) a) (toL (l.map Prod.fst) a) = toL (l.map Prod.fst) a by omega] at HF
  generalize fromL (l.map Prod.fst) a = r1 at *
  generalize toL (l.map Prod.fst) a = r2 at *
  have hq : ((r1 : Int) == (r2 : Int)) = false := by simp; omega
  clear h hm hne
  go_enter Try.func61, Try.ntmps61
  go_wp2_with fail
  refine HF.out.mono ?_
  rintro e w1 ⟨rfl, hb1⟩
  have HB := hid hb1
  clear hb1 HF
  go_wp2_with fail
  go_ret2
  exact ⟨rfl, HB.out⟩
def cntL (l : List En) : Int := (l.map En.ct).sum
set_option maxRecDepth 100000 in
set_option maxHeartbeats 2000000 in
theorem Count_c (A : Option Addr) (n c : Nat) (l : List EnA) (w : World) (h : IxIn w A n c l) (hm : mayB (l.map Prod.fst) [] none = true) (hct : ∀ x ∈ l, 0 ≤ x.1.ct ∧ x.1.ct ≤ 256) :
    Calls Try.prog 32 #[.slice A n c] w fun e w' => e = .returned (.int .i64 (cntL (l.map Prod.fst))) ∧ Below w.heap.size w w' := by
  have HM := hid (may_ix h hm)
  have hln := h.len
  have HH := hid h
  have HLN := hid hln
  have HCT := hid hct
  obtain ⟨R, hR⟩ : ∃ R, R = cntL (l.map Prod.fst) := ⟨_, rfl⟩
  rw [← hR]
  have HR := hid hR
  have hn := h.hn
  have HBD := hid (fun k : Nat => (show 0 ≤ cntL ((l.take k).map Prod.fst) ∧ cntL ((l.take k).map Prod.fst) ≤ 256 * (l.take k).length by
    have : ∀ q : List EnA, (∀ x ∈ q, 0 ≤ x.1.ct ∧ x.1.ct ≤ 256) → 0 ≤ cntL (q.map Prod.fst) ∧ cntL (q.map Prod.fst) ≤ 256 * q.length := by
      intro q
      induction q with
      | nil => intro _; simp [cntL]
      | cons x q ih =>
        intro hq
        have h1 := hq x List.mem_cons_self
        have h2 := ih (fun y hy => hq y (List.mem_cons_of_mem _ hy))
        unfold cntL at h2 ⊢
        simp only [List.map_cons, List.sum_cons, List.length_cons]
        omega
    exact this _ (fun x hx => hct x (List.mem_of_mem_take hx))))
  clear h hm hln hR hct
  go_enter Try.func32, Try.ntmps32
  go_wp2_with fail
  refine HM.out.mono ?_
  rintro e w1 ⟨rfl, hb1⟩
  have HB1 := hid hb1
  clear hb1 HM
  go_wp2_with fail
  go_loopw [3, 11] (fun u3 u11 wr => ∃ k : Nat, k ≤ n ∧ u11 = .int .i64 (k : Nat) ∧ u3 = .int .i64 (cntL ((l.take k).map Prod.fst)) ∧ Below w.heap.size w wr) (fun _ u11 _ => n - (intOf u11).toNat)
  case atStart => exact ⟨0, Nat.zero_le _, rfl, rfl, HB1.out⟩
  case round =>
    obtain ⟨k, hk, rfl, rfl, hb⟩ := hrel
    by_cases hlt : k < n
    · obtain ⟨e5, hrd⟩ := (HH.out.below hb).rd
      obtain ⟨ad, x, rfl, hx, hxl, c0, c1, c2, c3, c4⟩ := en_at hrd hlt
      have htk : l.take (k + 1) = l.take k ++ [x] := by rw [List.take_add_one, hx]; rfl
      have hs : cntL ((l.take (k + 1)).map Prod.fst) = cntL ((l.take k).map Prod.fst) + x.1.ct := by
        rw [htk]; unfold cntL; simp
      have b1 := HBD.out k
      have b2 := HBD.out (k + 1)
      rw [List.length_take] at b1 b2
      have HS := hid hs
      obtain ⟨z, hz⟩ : ∃ z, z = cntL ((l.take k).map Prod.fst) := ⟨_, rfl⟩
      rw [← hz] at hs b1 ⊢
      rw [hs] at b2
      have h0I : (0 : Int) ≤ (k : Int) := by omega
      have hkI : (k : Int) < (n : Int) := by omega
      obtain ⟨⟨fs, ls, ct, by_, ps⟩, pa, pc⟩ := x
      simp only at c0 c1 c2 c3 c4 b2
      have hz1 : -9223372036854775808 ≤ z + ct := by omega
      have hz2 : z + ct ≤ 9223372036854775807 := by omega
      have HBA := hid (hb.alloc hb.size (.cells #[.int .i64 fs, .int .i64 ls, .int .i64 ct, .slice pa ps.length pc, .int .i64 by_] 45))
      have HZ := hid hz
      clear hx hxl htk hrd b1 b2 hs hz hb
      go_wp2_with fail
      go_roundw
      case rel => exact ⟨k + 1, by omega, by go_num, by rw [HS.out, ← HZ.out], HBA.out⟩
      case measure => simp [intOf]; omega
    · obtain rfl : k = n := by omega
      have HF := hid (show cntL ((l.take k).map Prod.fst) = R by rw [List.take_of_length_le (Nat.le_of_eq HLN.out)]; exact HR.out.symm)
      have HB := hid hb
      rw [HF.out]
      clear hb hlt
      go_wp2_with fail
      go_ret
      exact ⟨rfl, HB.out⟩
end Go.Proofs.Ytgdnpmjmkcccoaa
namespace Go.Proofs.Ytgdnpmjmkcccoaa
set_option linter.unusedVariables false
set_option linter.unusedSimpArgs false
/-- the pages that come for the first time -/
def firsts : List Int → List Int → List Int
  | _, [] => []
  | L, p :: ps => if p ∈ L then firsts (p :: L) ps else p :: firsts (p :: L) ps
theorem firsts_snoc (p : Int) : ∀ (ps L : List Int), firsts L (ps ++ [p]) = firsts L ps ++ (if p ∈ ps.reverse ++ L then [] else [p])
  | [], L => by by_cases h : p ∈ L <;> simp [firsts, h]
  | q :: ps, L => by
    have ih := firsts_snoc p ps (q :: L)
    have e : p ∈ ps.reverse ++ q :: L ↔ p ∈ (q :: ps).reverse ++ L := by simp
    rw [List.cons_append, firsts, firsts, ih]
    simp only [e]
    split <;> simp
theorem firsts_len : ∀ (ps L : List Int), (firsts L ps).length ≤ ps.length
  | [], _ => Nat.le_refl _
  | q :: ps, L => by
    have ih := firsts_len ps (q :: L)
    rw [firsts]
    split <;> simp <;> omega
theorem mem_firsts : ∀ (ps L : List Int) (x : Int), x ∈ firsts L ps ↔ x ∈ ps ∧ x ∉ L
  | [], L, x => by simp [firsts]
  | q :: ps, L, x => by
    have ih := mem_firsts ps (q :: L) x
    rw [firsts]
    by_cases hq : q ∈ L
    · rw [if_pos hq, ih, List.mem_cons, List.mem_cons, not_or]
      constructor
      · rintro ⟨h1, h2, h3⟩
        exact ⟨.inr h1, h3⟩
      · rintro ⟨rfl | h1, h3⟩
        · exact absurd hq h3
        · exact ⟨h1, fun e => h3 (e ▸ hq), h3⟩
    · rw [if_neg hq, List.mem_cons, ih, List.mem_cons, List.mem_cons, not_or]
      constructor
      · rintro (rfl | ⟨h1, h2, h3⟩)
        · exact ⟨.inl rfl, hq⟩
        · exact ⟨.inr h1, h3⟩
      · rintro ⟨rfl | h1, h3⟩
        · exact .inl rfl
        · by_cases e : x = q
          · exact .inl e
          · exact .inr ⟨h1, e, h3⟩
theorem nodup_firsts : ∀ (ps L : List Int), (firsts L ps).Nodup
  | [], _ => by simp [firsts]
  | q :: ps, L => by
    have ih := nodup_firsts ps (q :: L)
    rw [firsts]
    split
    · exact ih
    · refine List.nodup_cons.2 ⟨fun h => ?_, ih⟩
      exact ((mem_firsts _ _ _).1 h).2 List.mem_cons_self
/-- a rising row with a number, once -/
def putN : List Int → Int → List Int
  | [], n => [n]
  | x :: l, n => if n < x then n :: x :: l else if n = x then x :: l else x :: putN l n
def allPut (ps : List Int) : List Int := ps.foldl putN []
abbrev Up (l : List Int) : Prop := l.Pairwise (· < ·)
theorem mem_put (n : Int) : ∀ (l : List Int) (y : Int), y ∈ putN l n ↔ y = n ∨ y ∈ l
  | [], y => by simp [putN]
  | x :: l, y => by
    have ih := mem_put n l y
    unfold putN
    split
    · simp
    · split
      · rename_i h; subst h; simp
      · simp only [List.mem_cons, ih]
        constructor
        · rintro (h | h | h)
          · exact .inr (.inl h)
          · exact .inl h
          · exact .inr (.inr h)
        · rintro (h | h | h)
          · exact .inr (.inl h)
          · exact .inl h
          · exact .inr (.inr h)
theorem up_put (n : Int) : ∀ (l : List Int), Up l → Up (putN l n)
  | [], _ => by simp [putN, Up]
  | x :: l, h => by
    have hc := List.pairwise_cons.1 h
    unfold putN
    split
    · rename_i hl
      refine List.pairwise_cons.2 ⟨fun y hy => ?_, h⟩
      rcases List.mem_cons.1 hy with rfl | hy
      · exact hl
      · exact Int.lt_trans hl (hc.1 y hy)
    · rename_i h1
      split
      · exact h
      · rename_i h2
        refine List.pairwise_cons.2 ⟨fun y hy => ?_, up_put n l hc.2⟩
        rcases (mem_put n l y).1 hy with rfl | hy
        · omega
        · exact hc.1 y hy
theorem up_all : ∀ (ps l : List Int), Up l → Up (ps.foldl putN l) ∧ ∀ y, y ∈ ps.foldl putN l ↔ y ∈ l ∨ y ∈ ps
  | [], l, h => by simp [h]
  | p :: ps, l, h => by
    obtain ⟨h1, h2⟩ := up_all ps (putN l p) (up_put p l h)
    refine ⟨h1, fun y => ?_⟩
    rw [List.foldl_cons, h2, mem_put, List.mem_cons]
    constructor
    · rintro ((h | h) | h)
      · exact .inr (.inl h)
      · exact .inl h
      · exact .inr (.inr h)
    · rintro (h | h | h)
      · exact .inl (.inr h)
      · exact .inl (.inl h)
      · exact .inr h
theorem up_ext : ∀ (a b : List Int), Up a → Up b → (∀ y, y ∈ a ↔ y ∈ b) → a = b
  | [], [], _, _, _ => rfl
  | [], y :: b, _, _, h => by have := (h y).2 List.mem_cons_self; cases this
  | x :: a, [], _, _, h => by have := (h x).1 List.mem_cons_self; cases this
  | x :: a, y :: b, ha, hb, h => by
    have ca := List.pairwise_cons.1 ha
    have cb := List.pairwise_cons.1 hb
    have e : x = y := by
      rcases List.mem_cons.1 ((h x).1 List.mem_cons_self) with e | e
      · exact e
      · rcases List.mem_cons.1 ((h y).2 List.mem_cons_self) with e2 | e2
        · exact e2.symm
        · have := ca.1 y e2
          have := cb.1 x e
          omega
    subst e
    refine congrArg _ (up_ext a b ca.2 cb.2 fun z => ?_)
    constructor
    · intro hz
      rcases List.mem_cons.1 ((h z).1 (List.mem_cons_of_mem _ hz)) with e | e
      · have := ca.1 z hz; omega
      · exact e
    · intro hz
      rcases List.mem_cons.1 ((h z).2 (List.mem_cons_of_mem _ hz)) with e | e
      · have := cb.1 z hz; omega
      · exact e
abbrev sortI (l : List Int) : List Int := l.mergeSort fun x y => decide (x ≤ y)
theorem sort_put (ps : List Int) : sortI (firsts [] ps) = allPut ps := by
  obtain ⟨h1, h2⟩ := up_all ps [] List.Pairwise.nil
  have hs : (sortI (firsts [] ps)).Pairwise (fun x y => x ≤ y) := by
    have := List.pairwise_mergeSort (le := fun x y : Int => decide (x ≤ y)) (fun a b c h k => by simp only [decide_eq_true_eq] at h k ⊢; omega) (fun a b => by simp; omega) (firsts [] ps)
    exact this.imp (fun h => by simpa using h)
  have hp := List.mergeSort_perm (firsts [] ps) (fun x y : Int => decide (x ≤ y))
  have hn : (sortI (firsts [] ps)).Nodup := hp.nodup_iff.2 (nodup_firsts _ _)
  refine up_ext _ _ ?_ h1 fun y => ?_
  · have := hs.and hn
    exact this.imp (fun {a b} h => by have h1 := h.1; have h2 := h.2; omega)
  · show y ∈ sortI _ ↔ y ∈ ps.foldl putN []
    rw [h2, hp.mem_iff, mem_firsts]
    simp
end Go.Proofs.Ytgdnpmjmkcccoaa
namespace Go.Proofs.Ytgdnpmjmkcccoaa
open Go.RowKit Go.Shelf VB
open Go.Lib (hid)
set_option linter.unusedVariables false
set_option linter.unusedSimpArgs false
attribute [local go_sem] Oper.semAt_some
/-- a row of entries, where it lies, and what it could hold -/
abbrev Rw := List EnA × Option Addr × Nat
def cellW (x : Rw) : Value := .slice x.2.1 x.1.length x.2.2
abbrev allP (L : List Rw) : List Int := L.flatMap fun x => pgsA x.1
structure PgIn (w : World) (A : Option Addr) (n c : Nat) (L : List Rw) : Prop where
  rows : ∃ e, Reads w e 1 A n (L.map cellW)
  each : ∀ x ∈ L, (∃ e, Reads w e 5 x.2.1 x.1.length (x.1.flatMap cellsN)) ∧ EnsIn w x.1 ∧ x.1.length ≤ 50000
  hn : n ≤ 16
theorem PgIn.below {w w' : World} {A : Option Addr} {n c : Nat} {L : List Rw} (h : PgIn w A n c L) (hb : Below w.heap.size w w') : PgIn w' A n c L :=
  ⟨h.rows.elim fun e k => ⟨e, k.below hb⟩, fun x hx => ⟨(h.each x hx).1.elim fun e k => ⟨e, k.below hb⟩, (h.each x hx).2.1.below hb, (h.each x hx).2.2⟩, h.hn⟩
theorem PgIn.len {w : World} {A : Option Addr} {n c : Nat} {L : List Rw} (h : PgIn w A n c L) : L.length = n := by
  obtain ⟨e, h⟩ := h.rows
  simpa using h.1
theorem PgIn.total {w : World} {A : Option Addr} {n c : Nat} {L : List Rw} (h : PgIn w A n c L) : (allP L).length ≤ 80000000000 := by
  have hl := h.len
  have hn := h.hn
  have h1 : ∀ l : List EnA, EnsIn w l → (pgsA l).length ≤ l.length * 100000 := by
    intro l
    induction l with
    | nil => intro _; simp [pgsA]
    | cons x l ih =>
      intro h
      have a := (h x List.mem_cons_self).2
      have b := ih (fun y hy => h y (List.mem_cons_of_mem _ hy))
      unfold pgsA at b ⊢
      rw [List.flatMap_cons, List.length_append, List.length_cons]
      omega
  have h2 : ∀ l : List Rw, (∀ x ∈ l, EnsIn w x.1 ∧ x.1.length ≤ 50000) → (allP l).length ≤ l.length * 5000000000 := by
    intro l
    induction l with
    | nil => intro _; simp [allP]
    | cons x l ih =>
      intro h
      have a := h x List.mem_cons_self
      have c := h1 x.1 a.1
      have b := ih (fun y hy => h y (List.mem_cons_of_mem _ hy))
      unfold allP at b ⊢
      rw [List.flatMap_cons, List.length_append, List.length_cons]
      omega
  have := h2 L (fun x hx => (h.each x hx).2)
  omega
theorem allP_app (a b : List Rw) : allP (a ++ b) = allP a ++ allP b := List.flatMap_append
theorem pgsA_app (a b : List EnA) : pgsA (a ++ b) = pgsA a ++ pgsA b := List.flatMap_append
set_option maxHeartbeats 400000 in
theorem pages_c (A : Option Addr) (n c : Nat) (w : World) :
    Calls Try.prog 62 #[.slice A n c] w fun e w' => e = .returned (.func (.func 99) #[] #[.pointer (some ⟨w.heap.size, 0, none⟩)]) ∧ w' = w.alloc (.cells #[.slice A n c] 56) := by
  go_enter Try.func62, Try.ntmps62
  go_wp2
  go_ret
  exact ⟨rfl, rfl⟩
theorem enters_pg : ∀ args w, (callFunc 99 args).run Try.prog w = .ok (.enter 99 args) w := enters_of Try.func99 (by kernel_rfl) rfl
set_option maxRecDepth 100000 in
set_option maxHeartbeats 2000000 in
theorem pg_in (n l : Nat) (B : Nat) (A : Option Addr) (m c : Nat) (L : List Rw) (n₀ : Nat) (w0 : World) (hm : PgIn w0 A m c L) (hn0 : n₀ = w0.heap.size) (J Jx : List Int → World → Prop)
    (W : World) (hW : Below n₀ w0 W) (hJ : AbidesFrom W.heap.size J)
    (hY : ∀ pre x W1, J pre W1 → (pre ++ [x]) <+: allP L → YieldAt Fence.wide (n - 1) Try.prog l #[.int .i64 x] W1 fun e W' =>
      (e = .returned (.bool true) ∧ J (pre ++ [x]) W' ∧ Below n₀ W1 W') ∨ (e = .returned (.bool false) ∧ Jx (pre ++ [x]) W'))
    (hB : W.cell? ⟨B, 0, none⟩ = some (.slice A m c)) (h0 : J [] W) :
    CallsIn Fence.wide n Try.prog 99 #[.func (.yield l) #[] #[], .pointer (some ⟨B, 0, none⟩)] W fun e W' => (∃ v, e = .returned v) ∧
      ((∃ ys, ys = allP L ∧ J ys W') ∨ (∃ pre, pre <+: allP L ∧ Jx pre W')) := by
  refine callsIn_of_wp Try.func99 rfl trivial ?_ rfl
  simp only [Try.ntmps99, List.size_toArray, List.length_cons, List.length_nil, Nat.reduceAdd, Nat.reduceSub, Array.replicate_succ, Array.replicate_zero, List.push_toArray, List.append_toArray, List.nil_append, List.cons_append]
  have HM := hid hm
  have HY := hid hY
  have HJ := hid hJ
  have HWB := hid hW
  have H0 := hid h0
  have HLN := hid hm.len
  have HN0 := hid hn0
  have hmm := hm.hn
  clear hm hY hJ hW h0 hn0
  gi_wp2
  gi_loopw [11] (fun u wr => ∃ k : Nat, k ≤ m ∧ u = .int .i64 (k : Nat) ∧ Hid (J (allP (L.take k)) wr) ∧ Below n₀ w0 wr) (fun u _ => m - (intOf u).toNat)
  case atStart => exact ⟨0, Nat.zero_le _, rfl, H0, HWB.out⟩
  case round =>
    obtain ⟨k, hk, rfl, hJs, hb⟩ := hrel
    have hsz : n₀ ≤ wr.heap.size := by rw [HN0.out]; exact hb.size
    by_cases hlt : k < m
    · obtain ⟨er, hrw⟩ := (HM.out.below (by rw [← HN0.out]; exact hb)).rows
      obtain ⟨ad, u, rfl, hu, cu⟩ := hrw.at_ hlt
      have hxl : k < L.length := by have := HLN.out; omega
      rw [List.getElem?_map, List.getElem?_eq_getElem hxl] at hu
      obtain ⟨x, hx⟩ : ∃ x, x = L[k] := ⟨_, rfl⟩
      rw [← hx] at hu
      injection hu with hu
      subst hu
      have htk : L.take (k + 1) = L.take k ++ [x] := by
        rw [List.take_succ_eq_append_getElem hxl, hx]
      have hal : allP (L.take (k + 1)) = allP (L.take k) ++ pgsA x.1 := by rw [htk, allP_app]; simp [allP]
      have HAL := hid hal
      have HXM := hid (show x ∈ L by rw [hx]; exact List.getElem_mem hxl)
      have henl := (HM.out.each x HXM.out).2.2
      have hltI : (k : Int) < (m : Int) := by omega
      have h0I : (0 : Int) ≤ (k : Int) := by omega
      obtain ⟨en, ea, ec⟩ := x
      obtain ⟨q, hq⟩ : ∃ q, q = en.length := ⟨_, rfl⟩
      replace cu : wr.cell? (ad.add k) = some (.slice ea q ec) := by rw [hq]; exact cu
      replace henl : q ≤ 50000 := by rw [hq]; exact henl
      have HQ := hid hq
      have HJN := hid (show J (allP (L.take k) ++ pgsA (en.take 0)) wr by simpa [pgsA] using hJs.out)
      have HBN := hid hb
      clear hrw hx htk hal hq hb hJs hxl
      gi_wp2
      obtain ⟨wo, rfl⟩ : ∃ wo : World, wo = wr := ⟨_, rfl⟩
      clear cu
      gi_loopw [17] (fun u wi => ∃ j : Nat, j ≤ q ∧ u = .int .i64 (j : Nat) ∧ Hid (J (allP (L.take k) ++ pgsA (en.take j)) wi) ∧ Below n₀ w0 wi) (fun u _ => q - (intOf u).toNat)
      case atStart => exact ⟨0, Nat.zero_le _, rfl, HJN, HBN.out⟩
      case round =>
        obtain ⟨j, hj, rfl, hJi, hbi⟩ := hrel
        have hszi : n₀ ≤ wr.heap.size := by rw [HN0.out]; exact hbi.size
        by_cases hjq : j < q
        · have hri := ((HM.out.below (by rw [← HN0.out]; exact hbi)).each _ HXM.out)
          obtain ⟨⟨ei, hen⟩, hens, _⟩ := hri
          simp only at hen hens
          rw [← HQ.out] at hen
          obtain ⟨ed, y, hea, hy, hyl, d0, d1, d2, d3, d4⟩ := en_at hen hjq
          have htj : en.take (j + 1) = en.take j ++ [y] := by
            rw [List.take_succ_eq_append_getElem hyl, (List.getElem?_eq_some_iff.1 hy).2]
          have hpj : pgsA (en.take (j + 1)) = pgsA (en.take j) ++ y.1.ps := by rw [htj, pgsA_app]; simp [pgsA]
          have HPJ := hid hpj
          have HYM := hid (List.mem_of_getElem? hy)
          obtain ⟨⟨fs, ls, ct, by_, ps⟩, pa, pc⟩ := y
          simp only at d0 d1 d2 d3 d4 hpj
          have HPJ := hid hpj
          have hpn : ps.length ≤ 100000 := (hens _ HYM.out).2
          have hpre : ∀ i, (allP (L.take k) ++ pgsA (en.take j)) ++ ps.take i <+: allP L := by
            intro i
            have h2 : allP (L.take (k + 1)) <+: allP L := ⟨allP (L.drop (k + 1)), by rw [← allP_app, List.take_append_drop]⟩
            rw [HAL.out] at h2
            refine List.IsPrefix.trans ?_ h2
            rw [List.append_assoc]
            refine (List.prefix_append_right_inj _).2 ?_
            have h3 : pgsA (en.take (j + 1)) <+: pgsA en := ⟨pgsA (en.drop (j + 1)), by rw [← pgsA_app, List.take_append_drop]⟩
            rw [hpj] at h3
            exact ((List.prefix_append_right_inj _).2 (List.take_prefix _ _)).trans h3
          have HPRE := hid hpre
          have HP0 := hid (show J ((allP (L.take k) ++ pgsA (en.take j)) ++ ps.take 0) (wr.alloc (.cells #[.int .i64 fs, .int .i64 ls, .int .i64 ct, .slice pa ps.length pc, .int .i64 by_] 45)) by
            rw [List.take_zero, List.append_nil]; exact abides_alloc HJ.out _ hJi.out)
          have HBA := hid (hbi.alloc hszi (.cells #[.int .i64 fs, .int .i64 ls, .int .i64 ct, .slice pa ps.length pc, .int .i64 by_] 45))
          have hji : (j : Int) < (q : Int) := by omega
          have hj0 : (0 : Int) ≤ (j : Int) := by omega
          obtain ⟨r, hr⟩ : ∃ r, r = ps.length := ⟨_, rfl⟩
          rw [← hr] at d3 hpn HBA HP0
          have HR := hid hr
          clear hens hen hy hyl htj hpj hpre hJi hbi hr
          subst hea
          gi_wp2
          obtain ⟨wo2, rfl⟩ : ∃ wo2 : World, wo2 = wr := ⟨_, rfl⟩
          clear d0 d1 d2 d3 d4
          gi_loopw [24] (fun u wi => ∃ i : Nat, i ≤ r ∧ u = .int .i64 (i : Nat) ∧ Hid (J ((allP (L.take k) ++ pgsA (en.take j)) ++ ps.take i) wi) ∧ Below n₀ w0 wi) (fun u _ => r - (intOf u).toNat)
          case atStart => exact ⟨0, Nat.zero_le _, rfl, HP0, HBA.out⟩
          case round =>
            obtain ⟨i, hi, rfl, hJp, hbp⟩ := hrel
            have hszp : n₀ ≤ wr.heap.size := by rw [HN0.out]; exact hbp.size
            by_cases hir : i < r
            · obtain ⟨ep, hpr⟩ := (((HM.out.below (by rw [← HN0.out]; exact hbp)).each _ HXM.out).2.1 _ HYM.out).1
              simp only at hpr
              rw [← HR.out] at hpr
              obtain ⟨pd, v, rfl, hv, cv⟩ := hpr.at_ hir
              have hil : i < ps.length := by have := HR.out; omega
              rw [List.getElem?_map, List.getElem?_eq_getElem hil] at hv
              obtain ⟨p, hp⟩ : ∃ p, p = ps[i] := ⟨_, rfl⟩
              rw [← hp] at hv
              injection hv with hv
              subst hv
              have hti : ps.take (i + 1) = ps.take i ++ [p] := by rw [List.take_succ_eq_append_getElem hil, hp]
              have hpx : ((allP (L.take k) ++ pgsA (en.take j)) ++ ps.take i) ++ [p] <+: allP L := by
                have := HPRE.out (i + 1)
                rw [hti, ← List.append_assoc] at this
                exact this
              obtain ⟨fn, tmps, assign, body, hyy, hRR⟩ := HY.out _ p _ hJp.out hpx
              have HTI := hid (show ((allP (L.take k) ++ pgsA (en.take j)) ++ ps.take i) ++ [p] = (allP (L.take k) ++ pgsA (en.take j)) ++ ps.take (i + 1) by rw [hti]; simp only [List.append_assoc])
              have HRR := hid hRR
              have HPX := hid hpx
              have HBP := hid hbp
              have hii : (i : Int) < (r : Int) := by omega
              have hi0 : (0 : Int) ≤ (i : Int) := by omega
              clear hpr hti hpx hRR hJp hbp hil hp
              gi_wp2
              refine ⟨fun h => absurd h (by simp [Fence.wide]), HRR.out.mono ?_⟩
              rintro e W3 (⟨rfl, hJ3, hk3⟩ | ⟨rfl, hJx3⟩)
              · have HN := hid (show J ((allP (L.take k) ++ pgsA (en.take j)) ++ ps.take (i + 1)) W3 by rw [← HTI.out]; exact hJ3)
                have HB3 := hid (HBP.out.trans hk3)
                clear hJ3 hk3 hyy cv
                gi_wp2
                go_roundw
                case rel => exact ⟨i + 1, by omega, by go_num, HN, HB3.out⟩
                case measure => simp [intOf]; omega
              · have HN := hid (show ∃ pre, pre <+: allP L ∧ Jx pre W3 from ⟨_, HPX.out, hJx3⟩)
                clear hJx3 hyy cv
                gi_wp2
                refine bodyPost_ret (results_none rfl _ _ _) rfl ?_
                exact ⟨⟨_, rfl⟩, .inr HN.out⟩
            · obtain rfl : i = r := by omega
              have HN := hid (show J (allP (L.take k) ++ pgsA (en.take (j + 1))) wr by
                have h := hJp.out
                rw [List.take_of_length_le (Nat.le_of_eq HR.out.symm)] at h
                rw [HPJ.out, ← List.append_assoc]; exact h)
              have HBI := hid hbp
              clear hJp hbp
              gi_wp2
              go_roundw
              case rel => exact ⟨j + 1, by omega, by go_num, HN, HBI.out⟩
              case measure => simp [intOf]; omega
        · obtain rfl : j = q := by omega
          have HN := hid (show J (allP (L.take (k + 1))) wr by
            have h := hJi.out
            rw [List.take_of_length_le (Nat.le_of_eq HQ.out.symm)] at h
            rw [HAL.out]; exact h)
          have HBI := hid hbi
          clear hJi hbi
          gi_wp2
          go_roundw
          case rel => exact ⟨k + 1, by omega, by go_num, HN, HBI.out⟩
          case measure => simp [intOf]; omega
    · obtain rfl : k = m := by omega
      have HF := hid (show J (allP L) wr by
        have h := hJs.out
        rw [List.take_of_length_le (Nat.le_of_eq HLN.out)] at h
        exact h)
      clear hJs hb
      gi_wp2
      go_end0
      exact ⟨⟨_, rfl⟩, .inl ⟨_, rfl, HF.out⟩⟩
theorem pg_stops (n B : Nat) (A : Option Addr) (m c : Nat) (L : List Rw) (w0 : World) (hm : PgIn w0 A m c L) (W0 : World) (hW0 : Below w0.heap.size w0 W0) (hB : Boxed W0 B 56 (.slice A m c)) :
    SeqStopsK Fence.wide n Try.prog 99 #[.pointer (some ⟨B, 0, none⟩)] (fun x : Int => #[.int .i64 x]) (Below w0.heap.size) (fun ys => ys = allP L) (fun pre => pre <+: allP L) (allP L).length W0 := by
  intro l J Jx W hW hJ hJx hY h0
  refine pg_in n l B A m c L w0.heap.size w0 hm rfl J Jx W (hW0.trans (hW.mono hW0.size)) hJ ?_ ((hW.cell (p := ⟨B, 0, none⟩) hB.lt).trans hB.cell) h0
  intro pre x W1 hj hpre
  exact hY pre x W1 hj (by have := hpre.length_le; rw [List.length_append, List.length_singleton] at this; omega)
end Go.Proofs.Ytgdnpmjmkcccoaa
namespace Go.Proofs.Ytgdnpmjmkcccoaa
open Go.RowKit Go.Shelf VB
open Go.Lib (hid)
set_option linter.unusedVariables false
set_option linter.unusedSimpArgs false
attribute [local go_sem] Oper.semAt_some
theorem sort_own {base k f : Nat} {C : Option Addr} {zs : List Int} {w : World} (h : w.ownsRow base 3 1 (.slice C k f) k (zs.map (Value.int .i64))) (hk : k ≤ 1000000000000) :
    Calls Try.prog 63 #[.slice C k f] w fun e w' => e = .returned (.tuple #[]) ∧ w'.ownsRow base 3 1 (.slice C k f) k ((sortI zs).map (Value.int .i64)) ∧ w.grownBy w' (Value.slice C k f).ownBlock := by
  have hl : zs.length = k := by have := h.1; simpa using this
  by_cases h0 : k = 0
  · subst h0
    have hz : zs = [] := List.eq_nil_of_length_eq_zero hl
    subst hz
    refine (Try.slices_Sort_int_none C f w).mono ?_
    rintro e w' ⟨rfl, rfl⟩
    exact ⟨rfl, by simpa using h, ⟨rfl, rfl, rfl, Nat.le_refl _, fun _ _ _ => rfl⟩⟩
  · rcases h.2 with ⟨_, hn⟩ | ⟨g, cap, cur, hv, hb, hg, hn, hc, hs, ht⟩
    · omega
    · injection hv with h1 h2 h3
      subst h1
      subst h3
      have ht' : cur.toList.take zs.length = zs.map (Value.int .i64) := by rw [hl]; simpa using ht
      have := Try.slices_Sort_int g 0 f zs w (holds_of_blockI hg ht') (Array.getElem?_eq_some_iff.1 hg).1 (by omega)
      rw [hl] at this
      refine this.mono ?_
      rintro e w' ⟨rfl, n, os, rfl⟩
      have hh := ownsRow_sortedI (n := n) (os := os) (ss := zs) (ts := sortI zs) (by simp) hb hg (by omega) hc hs
      rw [hl] at hh
      exact ⟨rfl, hh, grownBy_sortedI _⟩
def RetPg (ps : List Int) (w : World) (e : Ending) (w' : World) : Prop :=
  ∃ (k f : Nat) (C : Option Addr), k = (firsts [] ps).length ∧ e = .returned (.slice C k f) ∧ w'.ownsRow w.heap.size 3 1 (.slice C k f) k ((sortI (firsts [] ps)).map (Value.int .i64)) ∧ Below w.heap.size w w'
/-- what has been gathered -/
def GotP (w : World) (ps : List Int) (W : World) : Prop :=
  ∃ (k f : Nat) (C : Option Addr), Blk W (w.heap.size + 2) 43 #[.slice C k f] ∧ Hid (k = (firsts [] ps).length) ∧ W.ownsRow w.heap.size 3 1 (.slice C k f) k ((firsts [] ps).map (Value.int .i64))
theorem int_info : (Try.prog.info? 3).map (fun i => (i.zero, i.size, i.bytes)) = some (some (.int .i64 0), 1, 8) := by kernel_rfl
set_option maxRecDepth 100000 in
set_option maxHeartbeats 4000000 in
theorem Pages_c (A : Option Addr) (n c : Nat) (L : List Rw) (w : World) (h : PgIn w A n c L) :
    Calls Try.prog 27 #[.slice A n c] w (RetPg (allP L) w) := by
  obtain ⟨i0, hi0, hz0, hz1, hz2⟩ := info_parts3 int_info
  have HI := hid (And.intro hi0 (And.intro hz0 (And.intro hz1 hz2)))
  have HM := hid h
  have HTOT := hid h.total
  obtain ⟨W0, hW0⟩ : ∃ W0, W0 = (((w.alloc (.map #[] 0)).alloc (.cells #[.map (some w.heap.size)] 72)).alloc (.cells #[.slice none 0 0] 43)).alloc (.cells #[.slice A n c] 56) := ⟨_, rfl⟩
  have q1 : Blk W0 (w.heap.size + 1) 72 #[.map (some w.heap.size)] := by rw [hW0]; exact ((Blk.new_at _ _ _ (by simp)).alloc _).alloc _
  have q2 : Blk W0 (w.heap.size + 2) 43 #[.slice none 0 0] := by rw [hW0]; exact (Blk.new_at _ _ _ (by simp)).alloc _
  have q3 : Boxed W0 (w.heap.size + 1 + 1 + 1) 56 (.slice A n c) := by rw [hW0]; exact Blk.new_at _ _ _ (by simp)
  have q4 : MetAt W0 w.heap.size [] := by
    rw [hW0]
    exact (met_new w).keep ((Below.heap_alloc _ _ _ (by simp; omega)).trans ((Below.heap_alloc _ _ _ (by simp; omega)).trans (Below.heap_alloc _ _ _ (by simp))))
  have q5 : Below w.heap.size w W0 := by rw [hW0]; exact ((((Below.refl _ _).alloc (Nat.le_refl _) _).alloc (by simp) _).alloc (by simp; omega) _).alloc (by simp; omega) _
  have q6 : W0.heap.size = w.heap.size + 4 := by rw [hW0]; simp
  have HQ := hid (And.intro q1 (And.intro q2 (And.intro q3 (And.intro q4 (And.intro q5 q6)))))
  have HW0 := hid hW0
  have hmm : ∀ (t : TypeId) (w : World), (Instr.makeMap t none).run Try.prog w = .ok (.map (some w.heap.size)) (w.alloc (.map #[] 0)) := fun _ _ => rfl
  clear q1 q2 q3 q4 q5 q6 hW0 h hi0 hz0 hz1 hz2
  refine (callsIn_wide (n := 9)).1 (callsIn_of_wp_marks Try.func27 rfl trivial (wpIn_wide.2 ?_) rfl)
  simp only [Try.ntmps27, List.size_toArray, List.length_cons, List.length_nil, Nat.reduceAdd, Nat.reduceSub, Array.replicate_succ, Array.replicate_zero, List.push_toArray, List.append_toArray, List.nil_append, List.cons_append]
  go_wp2_with fail
  refine (pages_c _ _ _ _).mono ?_
  rintro e w' ⟨rfl, rfl⟩
  go_wp2_with fail
  rw [← HW0.out]
  obtain ⟨q1, q2, q3, q4, q5, q6⟩ := HQ.out
  have hsw : w.heap.size ≤ W0.heap.size := q5.size
  have hb0 : w.heap.size < w.heap.size + 1 := by omega
  clear HW0
  refine wpIn_wide.1 (wpIn_rangeFunc_ownH (n := 9) (F := Fence.wide) rfl (by omega) (gf := 99) (lb := #[.pointer (some ⟨w.heap.size + 1 + 1 + 1, 0, none⟩)]) rfl trivial enters_pg
    (pg_stops 8 (w.heap.size + 1 + 1 + 1) A n c L w HM.out W0 q5 q3) belowK_t (belowK_b hsw) (Below.refl _ _) (fun _ => rfl)
    (fun pre W => (GotP w pre W ∧ (Blk W (w.heap.size + 1) 72 #[.map (some w.heap.size)] ∧ MetAt W w.heap.size pre.reverse)) ∧ Below w.heap.size w W)
    (fun _ _ _ => False) ?own (fun _ _ _ _ _ hs _ _ => hs) ⟨⟨⟨0, 0, none, q2, hid rfl, World.ownsRow_nil _ _ _ _⟩, q1, q4⟩, q5⟩
    (fun x a' W => a' = { tmps := #[.slice A n c, undef, .slice none 0 0, .pointer (some ⟨w.heap.size + 1, 0, none⟩), .pointer (some ⟨w.heap.size + 1 + 1, 0, none⟩), .int .i64 x, .map (some w.heap.size), .slice A n c, .func (.func 99) #[] #[.pointer (some ⟨w.heap.size + 1 + 1 + 1, 0, none⟩)], .int .i64 x, undef, undef, undef, undef, undef, undef, undef, undef, undef, undef, undef, undef, undef, undef, undef], defers := [] })
    ?ax ?assign ?body ?done ?stop)
  case own =>
    refine OwnFrom.and ?_ (ownFrom_below (Nat.le_refl _) hsw)
    rintro s X Y row ⟨⟨k, f, C, b1, b2, b3⟩, b4, b5⟩ hg hr
    have hlo : ∀ j, j < w.heap.size + 4 → j < X.heap.size → Y.heap[j]? = X.heap[j]? := fun j hj hjx => hg.block j hjx (fun e => by
      have := (hr j e.symm).1
      omega)
    refine ⟨⟨k, f, C, (hlo _ (by omega) b1.lt).trans b1, b2, b3.kept hg ?_⟩, (hlo _ (by omega) b4.lt).trans b4, b5.keep (hlo _ (by omega) b5.lt)⟩
    rcases b3.2 with ⟨hv, _⟩ | ⟨g, cap, cur, hv, _, hg1, _⟩
    · rw [hv]; exact .inl rfl
    · rw [hv]
      refine .inr fun e => ?_
      obtain ⟨_, o, ho, hc⟩ := hr g e.symm
      rw [hg1] at ho
      cases ho
      cases hc
  case ax =>
    rintro x a' _ X Y row h hg hr
    exact h
  case assign =>
    rintro l pre x W K hI hK
    gi_wp2
    exact hK _ _ ((KeepsOthers.refl _).from _) (Below.refl _ W) hI rfl
  case body =>
    rintro l pre x a' W hl ⟨rr, hrr⟩ ⟨⟨⟨k, f, C, b1, b2, b3⟩, b4, b5⟩, b6⟩ rfl hlt
    obtain ⟨L0, hL0⟩ : ∃ L0, L0 = pre.reverse := ⟨_, rfl⟩
    rw [← hL0] at b5
    have hz : ∀ w, (zeroValue 3).run Try.prog w = .ok (.int .i64 0) w := fun w => by kernel_rfl
    have hL0l : L0.length ≤ 80000000000 := by rw [hL0, List.length_reverse]; have := HTOT.out; omega
    have hkl : k ≤ 80000000000 := by
      have := firsts_len pre []
      have := b2.out
      have := HTOT.out
      omega
    have hg := met_get (P := Try.prog) (k := x) b5 Try.underlying72 Try.underlying3 (hz W)
    obtain ⟨w1, hpu, hm1, hb1⟩ := met_put (P := Try.prog) (k := x) b5 Try.underlying72 Try.underlying3
    have hg1 := met_get (P := Try.prog) (k := x) hm1 Try.underlying72 Try.underlying3 (hz w1)
    rw [List.count_cons_self] at hg1
    have hcl : L0.count x ≤ 80000000000 := Nat.le_trans List.count_le_length hL0l
    have hin : (L0.count x = 0) ↔ x ∉ L0 := List.count_eq_zero
    obtain ⟨kk, hkk⟩ : ∃ kk, kk = L0.count x := ⟨_, rfl⟩
    rw [← hkk] at hg hpu hg1 hcl hin
    have hw : wrap64 ((kk : Nat) + 1 : Int) = ((kk : Nat) + 1 : Int) := by unfold wrap64; omega
    rw [show ((kk + 1 : Nat) : Int) = (kk : Int) + 1 by omega] at hg1
    have k1 := b1.but hb1 (by omega)
    have k4 := b4.but hb1 (by omega)
    have k3 : w1.ownsRow w.heap.size 3 1 (.slice C k f) k ((firsts [] pre).map (Value.int .i64)) := by
      refine b3.kept (row := some w.heap.size) ⟨hb1.os, hb1.tape, hb1.output, hb1.size, fun i hi hn => hb1.block i hi (fun e => hn (by rw [e]))⟩ ?_
      rcases b3.2 with ⟨hv, _⟩ | ⟨g, cap, cur, hv, _, hgc, _⟩
      · rw [hv]; exact .inl rfl
      · rw [hv]
        refine .inr fun e => ?_
        have e2 : g = w.heap.size := by simpa [Value.ownBlock] using e
        obtain ⟨_, _, _, hmp, _⟩ := b5
        rw [e2] at hgc
        rw [hgc] at hmp
        cases hmp
    have hbW := But.below (Below.refl w.heap.size W) hb1 (Nat.le_refl _) b6.size
    have hbw := b6.trans hbW
    have hkf : KeepsFrom W0.heap.size W w1 := ⟨hb1.size, fun i o hi ho hoc => (hb1.block i (Array.getElem?_eq_some_iff.1 ho).1 (by omega)).trans ho⟩
    have hrev : (pre ++ [x]).reverse = x :: L0 := by rw [List.reverse_append, hL0]; rfl
    have hsn : firsts [] (pre ++ [x]) = firsts [] pre ++ (if x ∈ L0 then [] else [x]) := by rw [firsts_snoc, List.append_nil, ← hL0]
    have e1 : W.cell? ⟨w.heap.size + 1, 0, none⟩ = some (.map (some w.heap.size)) := b4.cell 0
    have e2 : w1.cell? ⟨w.heap.size + 1, 0, none⟩ = some (.map (some w.heap.size)) := k4.cell 0
    have e3 : w1.cell? ⟨w.heap.size + 1 + 1, 0, none⟩ = some (.slice C k f) := k1.cell 0
    have e4 : w1.frozen? ⟨w.heap.size + 1 + 1, 0, none⟩ = false := k1.frozen 0
    have e5 : w.heap.size + 1 + 1 < w1.heap.size := k1.lt
    have hb8 : w.heap.size ≤ w1.heap.size := by omega
    have HG := hid hg
    have HG1 := hid hg1
    have HP := hid hpu
    have HKL := hid (And.intro hkl b2.out)
    have HST := hid (And.intro k1 (And.intro k3 (And.intro k4 (And.intro hm1 (And.intro hbW (And.intro hbw (And.intro hkf (And.intro hrev hsn))))))))
    clear hg hg1 hpu hrr b1 b2 b3 b4 b5 b6 hcl hkl hL0l hL0 hb1 k1 k3 k4 hm1 hbW hbw hkf hrev hsn hlt hl hkk
    by_cases hx : x ∈ L0
    · have hne : ((kk : Int) + 1 == 1) = false := by
        have : kk ≠ 0 := fun h => (hin.1 h) hx
        simp; omega
      have hN := hid (show KeepsFrom W0.heap.size W w1 ∧ Below w.heap.size W w1 ∧ ((GotP w (pre ++ [x]) w1 ∧ (Blk w1 (w.heap.size + 1) 72 #[.map (some w.heap.size)] ∧ MetAt w1 w.heap.size (pre ++ [x]).reverse)) ∧ Below w.heap.size w w1) by
        obtain ⟨k1, k3, k4, hm1, hbW, hbw, hkf, hrev, hsn⟩ := HST.out
        rw [if_pos hx, List.append_nil] at hsn
        exact ⟨hkf, hbW, ⟨⟨k, f, C, k1, hid (by rw [hsn]; exact HKL.out.2), by rw [hsn]; exact k3⟩, k4, by rw [hrev]; exact hm1⟩, hbw⟩)
      clear hin hx
      gi_wp2_with (first | (gi_at_lookup; refine wpListIn_lookup_run W (by rfl) (.tmp 10) (.tmp 11) 72 (by rfl) (.map (some w.heap.size)) (.int .i64 x) _ (by rfl) (by rfl) HG.out ?_) | (gi_at_lookup; refine wpListIn_lookup_run w1 (by rfl) (.tmp 14) (.tmp 15) 72 (by rfl) (.map (some w.heap.size)) (.int .i64 x) _ (by rfl) (by rfl) HG1.out ?_) | (gi_at_mapUpdate; refine wpListIn_mapUpdate_run W (by rfl) (.tmp 10) (.tmp 11) (.tmp 13) 72 (by rfl) (.map (some w.heap.size)) (.int .i64 x) (.int .i64 (kk + 1)) (by rfl) (by rfl) (by simp [Act.eval, hw]) _ HP.out ?_))
      exact hN.out
    · have hkk0 : kk = 0 := hin.2 hx
      subst hkk0
      have HX := hid hx
      clear hin hx
      gi_wp2_with (first | (gi_at_lookup; refine wpListIn_lookup_run W (by rfl) (.tmp 10) (.tmp 11) 72 (by rfl) (.map (some w.heap.size)) (.int .i64 x) _ (by rfl) (by rfl) HG.out ?_) | (gi_at_lookup; refine wpListIn_lookup_run w1 (by rfl) (.tmp 14) (.tmp 15) 72 (by rfl) (.map (some w.heap.size)) (.int .i64 x) _ (by rfl) (by rfl) HG1.out ?_) | (gi_at_mapUpdate; refine wpListIn_mapUpdate_run W (by rfl) (.tmp 10) (.tmp 11) (.tmp 13) 72 (by rfl) (.map (some w.heap.size)) (.int .i64 x) (.int .i64 ((0 : Nat) + 1)) (by rfl) (by rfl) (by simp [Act.eval, hw]) _ HP.out ?_) | (gi_at_builtin; refine wpListIn_append_own _ rfl (.tmp 18) (.tmp 20) 43 rfl w.heap.size 3 i0 (.int .i64 0) 1 8 Try.underlying43 HI.out.1 HI.out.2.1 HI.out.2.2.1 HI.out.2.2.2 rfl (by decide) _ _ _ rfl (HST.out.2.1.alloc _) ⟨w1.heap.size, 0, none⟩ 1 1 [.int .i64 x] rfl rfl (cell_one_new _ _ _) (by simp [Value.oneCell']) (by have := HKL.out.1; simp only [maxLen]; omega) (by have := HKL.out.1; omega) (by simp; omega) ?_; intro v' w2 hown' hgrow _; obtain ⟨g', cap', rfl⟩ := ownsRow_succ hown'; obtain ⟨hv1, hv2, hr2, hk2, hb2⟩ := Boxed.appended (B := w.heap.size + 2) HST.out.1 (by decide) HST.out.2.1 hb8 (by omega) hown' hgrow; have hc1 := hv1.cell; have hf1 := hv1.frozen; have hl1 := hv1.lt))
      obtain ⟨k1, k3, k4, hm1, hbW, hbw, hkf, hrev, hsn⟩ := HST.out
      rw [if_neg HX.out] at hsn
      have k4' : Boxed w2 (w.heap.size + 1) 72 (.map (some w.heap.size)) := Boxed.kept (Boxed.alloc (show Boxed w1 (w.heap.size + 1) 72 (.map (some w.heap.size)) from k4) _) hgrow (Boxed.not_row (show Boxed w1 (w.heap.size + 1) 72 (.map (some w.heap.size)) from k4) (by decide) k3)
      refine ⟨hkf.trans (hk2.from _), hbW.trans hb2, ⟨⟨k + 1, cap', some ⟨g', 0, none⟩, hv2, hid (by rw [hsn, List.length_append, ← HKL.out.2]; rfl), ?_⟩, (show Blk w2 (w.heap.size + 1) 72 #[.map (some w.heap.size)] from k4').far (by simp) _, ?_⟩, hbw.trans hb2⟩
      · rw [hsn, List.map_append]; exact hr2
      · rw [hrev]
        have hm1' := hm1
        obtain ⟨es, ck, M, m1, _⟩ := hm1'
        exact hm1.keep ((hk2.same _ _ m1 rfl).trans m1.symm)
  case done =>
    rintro D ys W hD hys ⟨⟨⟨k, f, C, b1, b2, b3⟩, b4, b5⟩, b6⟩ hK
    subst hys
    have hkl : k ≤ 80000000000 := by
      have := firsts_len (allP L) []
      have := b2.out
      have := HTOT.out
      omega
    have HB1 := hid b1
    have HSO := hid ((sort_own b3 (by omega)).mono (R' := fun e W2 => e = .returned (.tuple #[]) ∧ Blk W2 (w.heap.size + 2) 43 #[.slice C k f] ∧ W2.heap[D]? = some (.deferred (some [])) ∧ W2.ownsRow w.heap.size 3 1 (.slice C k f) k ((sortI (firsts [] (allP L))).map (Value.int .i64)) ∧ Below w.heap.size w W2) fun e W2 ⟨h1, h2, h3⟩ => ⟨h1, Boxed.kept b1 h3 (Boxed.not_row b1 (by decide) b3), (h3.block D (Array.getElem?_eq_some_iff.1 hK).1 (fun e => by
        rcases b3.2 with ⟨hv, _⟩ | ⟨g, cap, cur, hv, _, hgc, _⟩
        · rw [hv] at e; cases e
        · rw [hv] at e
          have e2 : D = g := by simpa [Value.ownBlock] using e
          rw [e2] at hK
          rw [hgc] at hK
          cases hK)).trans hK, h2, b6.grown h3 b6.size (fun j hj => (b3.lt j hj).1)⟩)
    have c1 : W.cell? ⟨w.heap.size + 1 + 1, 0, none⟩ = some (.slice C k f) := b1.cell 0
    have HK := hid b2.out
    clear b1 b2 b3 b4 b5 b6 hK
    go_wp2_with fail
    refine HSO.out.mono ?_
    rintro e W2 ⟨rfl, d1, d2, d3, d4⟩
    have c2 : W2.cell? ⟨w.heap.size + 1 + 1, 0, none⟩ = some (.slice C k f) := d1.cell 0
    have HD := hid (And.intro d2 (And.intro d3 d4))
    clear d1 d2 d3 d4 HSO
    go_wp2_with fail
    refine ⟨by simp, .inl ⟨_, _, rfl, run_takeDeferred HD.out.1, ?_⟩⟩
    have hne : some D ≠ (Value.slice C k f).ownBlock := fun e => by
      rcases HD.out.2.1.2 with ⟨hv, _⟩ | ⟨g, cap, cur, hv, _, hgc, _⟩
      · rw [hv] at e; cases e
      · rw [hv] at e
        have e2 : D = g := by simpa [Value.ownBlock] using e
        have := HD.out.1
        rw [e2, hgc] at this
        cases this
    exact ⟨_, results_tmp rfl _ _ _, k, f, C, HK.out, rfl, HD.out.2.1.kept (grownBy_putObj' _ _ _) (.inr (fun e => hne e.symm)), HD.out.2.2.trans (belowK_b (w := w) (Nat.le_refl _) W2 D _ (.deferred none) (by omega) HD.out.1 rfl rfl)⟩
  case stop =>
    rintro D cc pre W _ _ hh _
    exact hh.elim
end Go.Proofs.Ytgdnpmjmkcccoaa
namespace Go.Proofs.Ytgdnpmjmkcccoaa
open Go.RowKit Go.Shelf VB
open Go.Lib (hid)
set_option linter.unusedVariables false
set_option linter.unusedSimpArgs false
def ownE3 (e : En) : En := ⟨e.fs, e.ls, e.ct, e.by_, e.ps.take 300⟩
def ownX (l : List En) : List En := (l.take 60).map ownE3
/-- a row of entries that came in -/
structure IxArg (w : World) (A : Option Addr) (n c : Nat) (l : List EnA) : Prop where
  rd : ∃ e, Reads w e 5 A n (l.flatMap cellsN)
  hn : n ≤ c
  hc : c ≤ maxLen
  ens : ∀ e ∈ l, (∃ t, Reads w t 1 e.2.1 e.1.ps.length (e.1.ps.map (Value.int .i64))) ∧ (e.1.ps.length ≤ e.2.2 ∧ e.2.2 ≤ maxLen)
theorem IxArg.below {w w' : World} {A : Option Addr} {n c : Nat} {l : List EnA} (h : IxArg w A n c l) (hb : Below w.heap.size w w') : IxArg w' A n c l :=
  ⟨h.rd.elim fun e k => ⟨e, k.below hb⟩, h.hn, h.hc, fun e he => ⟨(h.ens e he).1.elim fun t k => ⟨t, k.below hb⟩, (h.ens e he).2⟩⟩
/-- an entry whose pages are numbers of their own -/
def EnFr (w : World) (x : EnA) : Prop := Reads w 3 1 x.2.1 x.1.ps.length (x.1.ps.map (Value.int .i64)) ∧ x.1.ps.length ≤ 300
theorem EnFr.below {w w' : World} {x : EnA} (h : EnFr w x) (hb : Below w.heap.size w w') : EnFr w' x := ⟨h.1.below hb, h.2⟩
def RetOwn21 (l : List En) (w : World) (e : Ending) (w' : World) : Prop := ∃ (xs : List EnA) (C : Option Addr) (k f : Nat), xs.map Prod.fst = ownX l ∧ xs.length = k ∧ e = .returned (.slice C k f) ∧ w'.ownsRow w.heap.size 45 5 (.slice C k f) k (xs.flatMap cellsN) ∧ (∀ x ∈ xs, EnFr w' x) ∧ Below w.heap.size w w'
theorem wpList_append_anyT {P : Program} (w : World) {ops : Array Oper} {rest : List Oper} {o : Oper} {a : Act} {Q : Exit → Act → World → Prop} (hgd : o.guard = none) (s x : Operand) (t : TypeId)
    (ho : o.op = .call { callee := .builtin .append, args := #[s, x], argTypes := #[t, t] })
    (base : Nat) (e : TypeId) (i : TypeInfo) (z : Value) (size bytes : Nat) (ht : P.underlying t = some (.slice e)) (hi : P.info? e = some i) (hz : i.zero = some z)
    (hsize : i.size = size) (hby : i.bytes = bytes) (hzs : z.cells.size = size) (hsz : 0 < size)
    (v : Value) (n : Nat) (xs : List Value) (hs : a.eval s = v) (hown : w.ownsRow base e size v n xs)
    (e' : TypeId) (A : Option Addr) (m c : Nat) (news : List Value) (hx : a.eval x = .slice A m c) (hr : Reads w e' size A m news) (h1 : ∀ u ∈ news, u.oneCell' = true)
    (h63 : n + m ≤ maxLen) (hbytes : (n + m) * bytes ≤ 140737488355328) (hbase : base ≤ w.heap.size)
    (h : ∀ v' w', w'.ownsRow base e size v' (n + m) (xs ++ news) → w.grownBy w' v.ownBlock → wpList P ops Q rest (a.put o.dst v') w') : wpList P ops Q (o :: rest) a w := by
  cases A with
  | none =>
    obtain ⟨rfl, rfl⟩ := nil_readsS hr
    exact wpList_append_any w hgd s x t ho base e i z size bytes ht hi hz hsize hby hzs hsz v n xs hs hown none 0 c [] hx ⟨by simp, fun h => absurd h (by omega)⟩ h1 h63 hbytes hbase (fun v' w' a b _ => h v' w' a b)
  | some ad => exact wpList_append_anyS w hgd s x t ho base e i z size bytes ht hi hz hsize hby hzs hsz v n xs hs hown e' ad m c news hx hr h1 h63 hbytes hbase h
theorem typed_neI {W : World} {b g : Nat} {t t' : TypeId} (h1 : Typed W b t) (h2 : Typed W g t') (hne : t ≠ t') : b ≠ g := by
  intro e
  subst e
  obtain ⟨c1, r1, h1⟩ := h1
  obtain ⟨c2, r2, h2⟩ := h2
  rw [h1] at h2
  injection h2 with h2
  injection h2 with _ h3
  exact hne h3
set_option maxRecDepth 100000 in
set_option maxHeartbeats 4000000 in
theorem own_21 (A : Option Addr) (n c : Nat) (l : List EnA) (w : World) (h : IxArg w A n c l) :
    Calls Try.prog 25 #[.slice A n c] w (RetOwn21 (l.map Prod.fst) w) := by
  obtain ⟨i0, hi0, hz0, hz1, hz2⟩ := info_parts3 entry_info
  have HI := hid (And.intro hi0 (And.intro hz0 (And.intro hz1 hz2)))
  obtain ⟨i1, hj0, hj1, hj2, hj3⟩ := info_parts3 int_info
  have HJ := hid (And.intro hj0 (And.intro hj1 (And.intro hj2 hj3)))
  obtain ⟨m, hm⟩ : ∃ m, m = min n 60 := ⟨_, rfl⟩
  have hmin : ∀ w, (Builtin.min_ #[3, 3] 3 #[.int .i64 (n : Int), .int .i64 60]).run Try.prog w = .ok (.int .i64 (m : Nat)) w := min_at hm 60 rfl
  have hln : l.length = n := by
    obtain ⟨e, k⟩ := h.rd
    have := k.1
    rw [recs_len cellsN_len] at this
    omega
  obtain ⟨l0, hl0⟩ : ∃ l0, l0 = l.take m := ⟨_, rfl⟩
  have hl0n : l0.length = m := by rw [hl0, List.length_take]; omega
  have HLL := hid (show ownX (l.map Prod.fst) = l0.map fun e => ownE3 e.1 by
    unfold ownX
    rw [← List.map_take, List.map_map, hl0]
    have e1 : l.take 60 = l.take m := by rw [hm, ← hln]; exact (take_min' l 60).symm
    rw [e1]; rfl)
  obtain ⟨e5, hrd⟩ := h.rd
  have hrd2 := hrd.take (k := m) (by omega)
  rw [take_cellsN, ← hl0] at hrd2
  have HRD := hid (hrd2.alloc (.cells #[] 45))
  have HE := hid (fun e (he : e ∈ l0) => h.ens e (by rw [hl0] at he; exact List.mem_of_mem_take he))
  have hm60 : m ≤ 60 := by omega
  have hmc : m ≤ c := by have := h.hn; omega
  have hmcI : ((m : Nat) : Int) ≤ (c : Int) := by omega
  have hcI : c ≤ 9223372036854775807 := by have := h.hc; unfold maxLen at this; omega
  have HL0 := hid hl0n
  clear hi0 hz0 hz1 hz2 hj0 hj1 hj2 hj3 hm hln hl0 hrd hrd2 hl0n h
  have HEM := hid (own_emptyS w 45 5)
  go_enter Try.func25, Try.ntmps25
  go_wp2_with (at_builtin; refine wpList_append_anyT _ rfl (.tmp 6) (.tmp 11) 39 rfl w.heap.size 45 i0 (.agg #[.int .i64 0, .int .i64 0, .int .i64 0, .slice none 0 0, .int .i64 0]) 5 56 Try.underlying39 HI.out.1 HI.out.2.1 HI.out.2.2.1 HI.out.2.2.2 rfl (by decide) _ 0 [] rfl HEM.out e5 A m c (l0.flatMap cellsN) rfl HRD.out (cellsNs_one _) (by simp only [maxLen]; omega) (by omega) (by simp) ?_; intro v1 w1 hown1 hg1; obtain ⟨C, f, hv1, _, _⟩ := own_form hown1; subst hv1)
  have hb1 : Below w.heap.size w w1 := ((Below.refl w.heap.size w).alloc (Nat.le_refl _) (.cells #[] 45)).grown hg1 (by simp) (by intro k hk; cases hk; exact Nat.le_refl _)
  simp only [Nat.zero_add, List.nil_append] at hown1
  have HO1 := hid hown1
  have HB1 := hid hb1
  clear hown1 hg1 hb1 HEM HRD hmin
  try rw [Nat.zero_add]
  go_loopw [15] (fun u15 wr => ∃ (k : Nat) (dn : List EnA), k ≤ m ∧ u15 = .int .i64 (k : Nat) ∧ Hid ((dn.length = k ∧ wr.ownsRow w.heap.size 45 5 (.slice C m f) m ((dn ++ l0.drop k).flatMap cellsN)) ∧ dn.map Prod.fst = (l0.take k).map (fun e => ownE3 e.1) ∧ ∀ x ∈ dn, EnFr wr x) ∧ Hid (Below w.heap.size w wr)) (fun u15 _ => m - (intOf u15).toNat)
  case atStart => exact ⟨0, [], Nat.zero_le _, rfl, hid ⟨⟨rfl, by simpa using HO1.out⟩, rfl, fun x hx => absurd hx (by simp)⟩, HB1⟩
  case round =>
    obtain ⟨k, dn, hk, rfl, hq, hbw⟩ := hrel
    by_cases hkm : k < m
    · obtain ⟨⟨hdl, hown⟩, hdm, hdr⟩ := hq.out
      obtain ⟨e, he⟩ : ∃ e, l0[k]? = some e := ⟨_, List.getElem?_eq_getElem (by have := HL0.out; omega)⟩
      have hdp : l0.drop k = e :: l0.drop (k + 1) := by rw [List.drop_eq_getElem_cons (List.getElem?_eq_some_iff.1 he).1, (List.getElem?_eq_some_iff.1 he).2]
      have htk : l0.take (k + 1) = l0.take k ++ [e] := by rw [List.take_add_one, he]; rfl
      rw [hdp] at hown
      obtain ⟨a2, x2, hC, hx2, _, c0, c1, c2, c3, c4⟩ := en_at (Reads.of_own hown) hkm
      rw [List.getElem?_append_right (by omega), hdl, Nat.sub_self, List.getElem?_cons_zero] at hx2
      injection hx2 with hx2
      subst hx2
      subst hC
      obtain ⟨⟨t4, hrp⟩, hp1, hp2⟩ := HE.out e (List.mem_of_getElem? he)
      obtain ⟨⟨fs, ls, ct, by_, ps⟩, eA, eC⟩ := e
      obtain ⟨n4, hn4⟩ : ∃ n4, n4 = ps.length := ⟨_, rfl⟩
      obtain ⟨m4, hm4⟩ : ∃ m4, m4 = min n4 300 := ⟨_, rfl⟩
      simp only at c0 c1 c2 c3 c4 hrp hp1 hp2
      rw [← hn4] at c3 hrp hp1
      have hmin4 : ∀ w, (Builtin.min_ #[3, 3] 3 #[.int .i64 (n4 : Int), .int .i64 300]).run Try.prog w = .ok (.int .i64 (m4 : Nat)) w := min_at hm4 300 rfl
      have q4 : ((m4 : Nat) : Int) ≤ (eC : Nat) := by omega
      have q4n : m4 ≤ eC := by omega
      have hkI : (k : Int) < (m : Int) := by omega
      have hk0 : (0 : Int) ≤ (k : Int) := by omega
      have hn4m : n4 ≤ 9223372036854775807 := by unfold maxLen at hp2; omega
      have hm4b : m4 ≤ 300 := by omega
      have hbe := hbw.out.alloc hbw.out.size (.cells (aE fs ls ct (.slice eA n4 eC) by_) 45)
      have HOE := hid (hown.alloc (.cells (aE fs ls ct (.slice eA n4 eC) by_) 45))
      have HDR := hid (fun x hx => (hdr x hx).below ((Below.refl _ _).alloc (Nat.le_refl _) (.cells (aE fs ls ct (.slice eA n4 eC) by_) 45)))
      have HBE := hid hbe
      have hr4 := (hrp.below hbe).take (k := m4) (by omega)
      rw [Nat.mul_one, ← List.map_take] at hr4
      have HR4 := hid (hr4.alloc (.cells #[] 3))
      have hal0 : a2.block < wr.heap.size := (own_put hown (k := k) (r := 3) (by omega) (.slice none 0 0)).2.2.1
      have HF := hid (And.intro hdl (And.intro hdm (And.intro htk (And.intro hn4 (And.intro hm4 (And.intro hdp hal0))))))
      obtain ⟨wE, hwE⟩ : ∃ wE, wE = wr.alloc (.cells (aE fs ls ct (.slice eA n4 eC) by_) 45) := ⟨_, rfl⟩
      have x3 : (wE.alloc (.cells #[] 3)).cell? ⟨wr.heap.size, 3, none⟩ = some (.slice eA n4 eC) := by rw [hwE]; exact ((Blk.new wr 45 (aE fs ls ct (.slice eA n4 eC) by_)).alloc _).cell 3
      rw [← hwE] at HOE HDR HBE HR4
      have hsz : wr.heap.size < wE.heap.size := by rw [hwE]; simp
      have HWE := hid hwE
      have HOP := hid (fun W (hW : Below wE.heap.size wE W) (u : Value) => own_put (own_below HOE.out hW) (k := k) (r := 3) (by omega) u)
      clear hdl hown hdm hdr hdp htk hrp hp1 hp2 hn4 hm4 hbe hq hbw hr4 hal0 he hwE
      have HEM := hid (own_emptyS wE 3 1)
      go_upto_region 5 with fail
      clear c0 c1 c2 c3 c4
      rw [← HWE.out]
      go_wp2_with (at_builtin; refine wpList_append_anyT _ rfl (.tmp 22) (.tmp 29) 43 rfl wE.heap.size 3 i1 (.int .i64 0) 1 8 Try.underlying43 HJ.out.1 HJ.out.2.1 HJ.out.2.2.1 HJ.out.2.2.2 rfl (by decide) _ 0 [] rfl HEM.out t4 eA m4 eC ((ps.take m4).map (Value.int .i64)) rfl HR4.out (ints_one _) (by simp only [maxLen]; omega) (by omega) (by simp) ?_; intro v2 w2 hown2 hg2; obtain ⟨C2, f2, hv2, _, _⟩ := own_form hown2; subst hv2; have hb2 : Below wE.heap.size wE w2 := ((Below.refl wE.heap.size wE).alloc (Nat.le_refl _) (.cells #[] 3)).grown hg2 (by simp) (by intro b hb; cases hb; exact Nat.le_refl _); have hfz := (HOP.out w2 hb2 (.slice C2 m4 f2)).2.1; have hal := (HOP.out w2 hb2 (.slice C2 m4 f2)).2.2.1; have hgt := (HOP.out w2 hb2 (.slice C2 m4 f2)).2.2.2.2.2 _ (by rw [← HF.out.1]; exact get_here dn _ _); have hab := (HOP.out w2 hb2 (.slice C2 m4 f2)).2.2.2.1; have HAA := hid (HOP.out w2 hb2 (.slice C2 m4 f2)).2.2.2.2.1; have hal2 : (a2.add (k * 5)).block < w2.heap.size := by rw [HAA.out]; exact hal)
      simp only [Nat.zero_add, List.nil_append] at hown2
      have hml : (ps.take m4).length = m4 := by rw [List.length_take]; have := HF.out.2.2.2.1; have := HF.out.2.2.2.2.1; omega
      have hty : Typed w2 (a2.add (k * 5)).block 45 := by rw [HAA.out]; exact own_typedE (own_below HOE.out hb2)
      have hset : ∀ x : EnA, EnFr w2 x → EnFr (w2.setCell ⟨(a2.add (k * 5)).block, (a2.add (k * 5)).off + 3, none⟩ (.slice C2 m4 f2)) x := fun x hx =>
        ⟨hx.1.keep fun b hb => Below.heap_setCell _ _ _ b (typed_neI hb hty (by decide)), hx.2⟩
      have hown3 := (HOP.out w2 hb2 (.slice C2 m4 f2)).1
      rw [← HF.out.1, set_here dn _ _ (⟨fs, ls, ct, by_, ps.take m4⟩, C2, f2) (.slice C2 m4 f2) (by simp [cellsN, hml]), HF.out.1] at hown3
      have hbf : Below w.heap.size w (w2.setCell ⟨(a2.add (k * 5)).block, (a2.add (k * 5)).off + 3, none⟩ (.slice C2 m4 f2)) := (HBE.out.trans (hb2.mono HBE.out.size)).setCell (p := ⟨(a2.add (k * 5)).block, (a2.add (k * 5)).off + 3, none⟩) (by rw [HAA.out]; exact hab) _
      have HREL := hid (show ((dn ++ [((⟨fs, ls, ct, by_, ps.take m4⟩, C2, f2) : EnA)] : List EnA).length = k + 1 ∧ (w2.setCell ⟨(a2.add (k * 5)).block, (a2.add (k * 5)).off + 3, none⟩ (.slice C2 m4 f2)).ownsRow w.heap.size 45 5 (.slice (some a2) m f) m (((dn ++ [((⟨fs, ls, ct, by_, ps.take m4⟩, C2, f2) : EnA)]) ++ l0.drop (k + 1)).flatMap cellsN)) ∧ (dn ++ [((⟨fs, ls, ct, by_, ps.take m4⟩, C2, f2) : EnA)] : List EnA).map Prod.fst = (l0.take (k + 1)).map (fun e => ownE3 e.1) ∧ ∀ x ∈ (dn ++ [((⟨fs, ls, ct, by_, ps.take m4⟩, C2, f2) : EnA)] : List EnA), EnFr (w2.setCell ⟨(a2.add (k * 5)).block, (a2.add (k * 5)).off + 3, none⟩ (.slice C2 m4 f2)) x from by
        refine ⟨⟨by rw [List.length_append, HF.out.1]; rfl, hown3⟩, ?_, fun x hx => ?_⟩
        · rw [List.map_append, HF.out.2.1, HF.out.2.2.1, List.map_append]
          congr 1
          have e3 : ps.take m4 = ps.take 300 := by rw [HF.out.2.2.2.2.1, HF.out.2.2.2.1]; exact take_min' ps 300
          simp only [List.map_cons, List.map_nil, ownE3, e3]
        · refine hset x ?_
          rcases List.mem_append.1 hx with hx | hx
          · exact (HDR.out x hx).below hb2
          · obtain rfl := List.mem_singleton.1 hx
            exact ⟨by rw [hml]; exact Reads.of_own hown2, by rw [hml]; exact hm4b⟩)
      have HBF := hid hbf
      clear hown2 hg2 hown3 hbf hset hty hml hb2 hfz hal hgt hab hal2
      go_roundw
      case rel => exact ⟨k + 1, _, by omega, by go_num, HREL, HBF⟩
      case measure => simp [intOf]; omega
    · obtain rfl : k = m := by omega
      obtain ⟨⟨hdl, hown⟩, hdm, hdr⟩ := hq.out
      have hF : RetOwn21 (l.map Prod.fst) w (.returned (.slice C k f)) wr := by
        refine ⟨dn, C, k, f, ?_, hdl, rfl, ?_, hdr, hbw.out⟩
        · rw [HLL.out, hdm, List.take_of_length_le (Nat.le_of_eq HL0.out)]
        · rw [List.drop_of_length_le (Nat.le_of_eq HL0.out), List.append_nil] at hown
          exact hown
      have HF := hid hF
      clear hF hdl hown hdm hdr hq hbw hkm
      go_wp2_with fail
      go_ret
      exact HF.out
end Go.Proofs.Ytgdnpmjmkcccoaa
namespace Go.Proofs.Ytgdnpmjmkcccoaa
open Go.RowKit Go.Shelf VB
open Go.Lib (hid)
set_option linter.unusedVariables false
set_option linter.unusedSimpArgs false
theorem one_E (l : List EnA) : ∀ v ∈ l.flatMap cellsN, v.oneCell' = true := by
  intro v hv
  obtain ⟨x, _, hx⟩ := List.mem_flatMap.1 hv
  simp only [cellsN, List.mem_cons, List.not_mem_nil, or_false] at hx
  rcases hx with rfl | rfl | rfl | rfl | rfl <;> rfl
def RetCatE (l : List EnA) (w : World) (e : Ending) (w' : World) : Prop := ∃ C f, e = .returned (.slice C l.length f) ∧ w'.ownsRow w.heap.size 45 5 (.slice C l.length f) l.length (l.flatMap cellsN) ∧ Below w.heap.size w w'
def RetV0E (w : World) (e : Ending) (w' : World) : Prop := ∃ C f, e = .returned (.slice C 0 f) ∧ w'.ownsRow w.heap.size 45 5 (.slice C 0 f) 0 [] ∧ Below w.heap.size w w'
set_option maxHeartbeats 1000000 in
theorem grow_bE (n : Nat) (w : World) (hn : n ≤ 100000000) :
    Calls Try.prog 103 #[.slice none 0 0, .int .i64 n] w (RetV0E w) := by
  obtain ⟨i0, hi0, hz0, hz1, hz2⟩ := info_parts3 entry_info
  have h1 : ¬ ((n : Int) < 0) := by omega
  have h3 : wrap64 (n : Int) = (n : Int) := by unfold wrap64; omega
  rcases Nat.eq_zero_or_pos n with h0 | h0
  · subst h0
    have HF := hid (show RetV0E w (.returned (.slice none 0 0)) w from ⟨none, 0, rfl, World.ownsRow_nil _ _ _ _, Below.refl _ _⟩)
    clear h1 h3 hi0 hz0 hz1 hz2
    go_enter Try.func103, Try.ntmps103
    go_wp2_with fail
    go_ret
    exact HF.out
  · have h4 : (n : Int) > 0 := by omega
    have hold : ∀ w : World, (Builtin.firstCells i0.size 0 (.slice none 0 0)).run Try.prog w.drew = .ok ([] : List Value).toArray w.drew := fun w => run_firstCells_none w.drew i0.size 0 0 0
    obtain ⟨G, hG⟩ : ∃ G, G = grownCap w (0 + n) 0 45 := ⟨_, rfl⟩
    have hGn : 0 + n ≤ grownCap w (0 + n) 0 45 := grownCap_ge w _ _ _
    have hG63 := grownCap_le_maxLen w (0 + n) 0 45 (by unfold maxLen; omega)
    have hrz : ∀ ty, (Builtin.append_ #[39, 3] ty #[.slice none 0 0, .int .i64 (n : Int)]).run Try.prog w =
        .ok (.slice (some ⟨w.heap.size, 0, none⟩) n G) (w.drew.alloc (.cells (([] : List Value).toArray ++ Builtin.zeroCells (Value.agg #[.int .i64 0, .int .i64 0, .int .i64 0, .slice none 0 0, .int .i64 0]).cells n ++ Builtin.zeroCells (Value.agg #[.int .i64 0, .int .i64 0, .int .i64 0, .slice none 0 0, .int .i64 0]).cells (G - n)) 45)) := fun ty => by
      have h := Lib.run_append_grow_zeros w 39 3 ty 45 i0 (.agg #[.int .i64 0, .int .i64 0, .int .i64 0, .slice none 0 0, .int .i64 0]) .i64 .i64 Try.underlying39 Try.underlying3 hi0 hz0 none 0 0 [] (hold w) n h0 (by rw [hz1]; decide) (by omega) (by omega)
        (by rw [hz2]; omega) (by exact growslice_fits (by omega) (by rw [hz2]; omega))
      rw [← hG] at h
      rw [Nat.zero_add] at h
      exact h
    rw [← hG, Nat.zero_add] at hGn
    rw [← hG] at hG63
    have hGI : G ≤ 9223372036854775807 := by unfold maxLen at hG63; omega
    have hsz : (([] : List Value).toArray ++ Builtin.zeroCells (Value.agg #[.int .i64 0, .int .i64 0, .int .i64 0, .slice none 0 0, .int .i64 0]).cells n ++ Builtin.zeroCells (Value.agg #[.int .i64 0, .int .i64 0, .int .i64 0, .slice none 0 0, .int .i64 0]).cells (G - n)).size = G * 5 := by
      simp [Builtin.zeroCells, Value.cells]
      omega
    generalize (([] : List Value).toArray ++ Builtin.zeroCells (Value.agg #[.int .i64 0, .int .i64 0, .int .i64 0, .slice none 0 0, .int .i64 0]).cells n ++ Builtin.zeroCells (Value.agg #[.int .i64 0, .int .i64 0, .int .i64 0, .slice none 0 0, .int .i64 0]).cells (G - n)) = cs at *
    have HF := hid (show RetV0E w (.returned (.slice (some ⟨w.heap.size, 0, none⟩) 0 G)) (w.drew.alloc (.cells cs 45)) from
      ⟨_, G, rfl, ⟨rfl, .inr ⟨w.heap.size, G, cs, rfl, Nat.le_refl _, heap_alloc_new w.drew _, Nat.zero_le _, hG63, hsz, by simp⟩⟩, (Below.refl w.heap.size w).drew.alloc (Nat.le_refl _) _⟩)
    have hG0 : (0 : Int) ≤ (G : Nat) := by omega
    clear hold hG hsz hG63 hi0 hz0 hz1 hz2 h0
    go_enter Try.func103, Try.ntmps103
    go_wp2_with (at_builtin; refine Lib.wpList_append_run _ rfl _ _ _ _ rfl _ _ rfl rfl _ _ (hrz _) ?_)
    all_goals (go_ret; exact HF.out)
/-- one of the slices that are joinedE -/
structure PartE where
  A : Option Addr
  n : Nat
  c : Nat
  bs : List EnA
def cellSE (q : PartE) : Value := .slice q.A q.n q.c
def joinedE (L : List PartE) : List EnA := L.flatMap PartE.bs
theorem joined_succE {L : List PartE} {i : Nat} (h : i < L.length) : joinedE (L.take (i + 1)) = joinedE (L.take i) ++ (L[i]).bs := by
  unfold joinedE
  rw [List.take_succ_eq_append_getElem h, List.flatMap_append]
  simp
theorem joined_leE {L : List PartE} {i : Nat} : (joinedE (L.take i)).length ≤ (joinedE L).length := by
  unfold joinedE
  conv => rhs; rw [← List.take_append_drop i L, List.flatMap_append, List.length_append]
  omega
set_option maxRecDepth 100000 in
set_option maxHeartbeats 2000000 in
theorem concat_bE {eS : TypeId} (A : Option Addr) (k c : Nat) (L : List PartE) (w : World) (hr : Reads w eS 1 A k (L.map cellSE)) (hl : ∀ q ∈ L, Reads w 45 5 q.A q.n (q.bs.flatMap cellsN)) (htot : (joinedE L).length ≤ 1000000) (hk : k ≤ 1000000) :
    Calls Try.prog 68 #[.slice A k c] w (RetCatE (joinedE L) w) := by
  obtain ⟨i0, hi0, hz0, hz1, hz2⟩ := info_parts3 entry_info
  have HI := hid (And.intro hi0 (And.intro hz0 (And.intro hz1 hz2)))
  have hLk : L.length = k := by have := hr.1; simpa using this
  have HR := hid hr
  have HL := hid hl
  have HT := hid htot
  have HLK := hid hLk
  have HG := hid (fun w' => grow_bE (joinedE L).length w' (by omega))
  clear hr hl htot hLk hi0 hz0 hz1 hz2
  go_enter Try.func68, Try.ntmps68
  go_wp2_with fail
  go_loopw [3, 11] (fun u3 u11 wr => ∃ i s : Nat, i ≤ k ∧ u11 = .int .i64 (i : Nat) ∧ u3 = .int .i64 (s : Nat) ∧ Hid (s = (joinedE (L.take i)).length) ∧ w = wr) (fun _ u11 _ => k - (intOf u11).toNat)
  case atStart => exact ⟨0, 0, Nat.zero_le _, rfl, rfl, hid rfl, rfl⟩
  case round =>
    obtain ⟨i, s, hi, rfl, rfl, hs, rfl⟩ := hrel
    by_cases hlt : i < k
    · obtain ⟨ad, u, rfl, hu, hc⟩ := HR.out.at_ hlt
      have hiL : i < L.length := by have := HLK.out; omega
      rw [List.getElem?_map, List.getElem?_eq_getElem hiL] at hu
      injection hu with hu
      have hq := HL.out _ (List.getElem_mem hiL)
      have hs1 := joined_succE hiL
      have hjl := joined_leE (L := L) (i := i + 1)
      have hbl : (L[i]).bs.length = (L[i]).n := by have := hq.1; rw [recs_len cellsN_len] at this; omega
      generalize L[i] = q at *
      obtain ⟨qa, qn, qc, qb⟩ := q
      subst hu
      have HS := hid (show s + qn = (joinedE (L.take (i + 1))).length ∧ s + qn ≤ 1000000 by
        have := hs.out
        have := HT.out
        rw [hs1, List.length_append] at hjl ⊢
        simp only at hbl hjl ⊢
        exact ⟨by omega, by omega⟩)
      replace hc : w.cell? (ad.add i) = some (.slice qa qn qc) := hc
      have hw : wrap64 ((s : Int) + (qn : Int)) = ((s + qn : Nat) : Int) := by have := HS.out.2; unfold wrap64; omega
      have hn0 : ¬ (((s + qn : Nat) : Int) < 0) := by omega
      have hsi : (i : Int) < (k : Int) := by omega
      have hsi0 : (0 : Int) ≤ (i : Int) := by omega
      clear hs hq hs1 hjl hbl hiL
      go_wp2_with fail
      go_roundw
      case rel => exact ⟨i + 1, s + qn, by omega, by go_num, by rw [hw], hid HS.out.1, trivial⟩
      case measure => simp [intOf]; omega
    · obtain rfl : i = k := by omega
      have hs' : s = (joinedE L).length := by have := hs.out; rw [List.take_of_length_le (by have := HLK.out; omega)] at this; exact this
      subst hs'
      clear hs hlt hi
      go_wp2_with fail
      refine (HG.out _).mono ?_
      rintro e w2 ⟨C, f, rfl, hown, hb⟩
      have HOW := hid hown
      have HB := hid hb
      clear hown hb HG
      go_wp2_with fail
      go_loopw [6, 27] (fun u6 u27 wr => ∃ (j : Nat) (acc : List EnA) (C : Option Addr) (f : Nat), j ≤ i ∧ u27 = .int .i64 (j : Nat) ∧ u6 = .slice C acc.length f ∧ Hid (acc = joinedE (L.take j)) ∧ wr.ownsRow w.heap.size 45 5 (.slice C acc.length f) acc.length (acc.flatMap cellsN) ∧ Below w.heap.size w wr) (fun _ u27 _ => i - (intOf u27).toNat)
      case atStart => exact ⟨0, [], C, f, Nat.zero_le _, rfl, rfl, hid rfl, HOW.out, HB.out⟩
      case round =>
        obtain ⟨j, acc, C, f, hj, rfl, rfl, hacc, hown, hb⟩ := hrel
        by_cases hlt : j < i
        · obtain ⟨ad, u, rfl, hu, hc⟩ := (HR.out.below hb).at_ hlt
          have hiL : j < L.length := by have := HLK.out; omega
          rw [List.getElem?_map, List.getElem?_eq_getElem hiL] at hu
          injection hu with hu
          have hq := (HL.out _ (List.getElem_mem hiL)).below hb
          have hs1 := joined_succE hiL
          have hjl := joined_leE (L := L) (i := j + 1)
          have hbl : (L[j]).bs.length = (L[j]).n := by have := hq.1; rw [recs_len cellsN_len] at this; omega
          generalize L[j] = q at *
          obtain ⟨qa, qn, qc, qb⟩ := q
          subst hu
          simp only at hbl hq
          subst hbl
          have HS := hid (show acc ++ qb = joinedE (L.take (j + 1)) ∧ acc.length + qb.length ≤ 1000000 by
            have h1 := hacc.out
            have := HT.out
            rw [hs1] at hjl ⊢
            rw [← h1] at hjl ⊢
            rw [List.length_append] at hjl
            simp only at hjl
            exact ⟨rfl, by omega⟩)
          replace hc : wr.cell? (ad.add j) = some (.slice qa qb.length qc) := hc
          have HQ := hid hq
          have HB := hid hb
          have HOWN := hid hown
          have hsi : (j : Int) < (i : Int) := by omega
          have hsi0 : (0 : Int) ≤ (j : Int) := by omega
          clear hq hs1 hjl hiL hacc hb hown
          go_wp2_with (at_builtin; refine wpList_append_any _ rfl (.tmp 31) (.tmp 32) 39 rfl w.heap.size 45 i0 (.agg #[.int .i64 0, .int .i64 0, .int .i64 0, .slice none 0 0, .int .i64 0]) 5 56 Try.underlying39 HI.out.1 HI.out.2.1 HI.out.2.2.1 HI.out.2.2.2 rfl (by decide) (.slice C acc.length f) acc.length (acc.flatMap cellsN) rfl HOWN.out qa qb.length qc (qb.flatMap cellsN) rfl HQ.out (one_E _) (by have := HS.out.2; simp only [maxLen]; omega) (by have := HS.out.2; omega) HB.out.size ?_; intro v' w' hown' hg' hv')
          obtain ⟨C3, f3, rfl, _, _⟩ := own_form hown'
          have hb6 := HB.out.grown hg' HB.out.size (fun k hk => (HOWN.out.lt k hk).1)
          rw [← List.flatMap_append, ← List.length_append] at hown'
          rw [← List.length_append]
          have HO2 := hid hown'
          have HB2 := hid hb6
          clear hg' hv' hown' hb6 hc
          go_wp2_with fail
          go_roundw
          case rel => exact ⟨j + 1, acc ++ qb, C3, f3, by omega, by go_num, rfl, hid HS.out.1, HO2.out, HB2.out⟩
          case measure => simp [intOf]; omega
        · obtain rfl : j = i := by omega
          have HF := hid (show RetCatE (joinedE L) w (.returned (.slice C acc.length f)) wr by
            have e : acc = joinedE L := by rw [hacc.out, List.take_of_length_le (by have := HLK.out; omega)]
            rw [e] at hown ⊢
            exact ⟨C, f, rfl, hown, hb⟩)
          clear hlt hown hb hacc
          go_wp2_with fail
          go_ret
          exact HF.out
end Go.Proofs.Ytgdnpmjmkcccoaa
namespace Go.Proofs.Ytgdnpmjmkcccoaa
open Go.RowKit Go.Shelf VB
open Go.Lib (hid)
set_option linter.unusedVariables false
set_option linter.unusedSimpArgs false
theorem run_copy_rowK {P : Program} (w : World) (dT sT ty elem : TypeId) (g sz n dCap : Nat) (a : Addr) (sCap : Nat) (cur : Array Value) (t : TypeId) (cs : List Value)
    (hu : P.underlying dT = some (.slice elem)) (hs : (P.info? elem).map (·.size) = some sz)
    (hg : w.heap[g]? = some (.cells cur t (0, 0))) (hn : cs.length = n * sz)
    (hsrc : ∀ j v, cs[j]? = some v → w.cell? (a.add j) = some v) (hfit : cs.length ≤ cur.size) (h1 : ∀ v ∈ cs, v.oneCell' = true) :
    (Builtin.copy_ #[dT, sT] ty #[.slice (some ⟨g, 0, none⟩) n dCap, .slice (some a) n sCap]).run P w =
      .ok (goInt n) (w.setRow g (cs ++ cur.toList.drop cs.length).toArray) := by
  have hl := run_loadCells_list (P := P) w a cs hsrc
  have hst := run_storeCells_at P g 0 t cs 0 cur w hg (by simpa using hfit) h1
  simp only [Nat.zero_add, List.take_zero, List.nil_append] at hst
  cases hq : P.info? elem with
  | none => simp [hq] at hs
  | some i =>
    have hi : i.size = sz := by simpa [hq] using hs
    simp [Builtin.copy_, run_underlying hu, Builtin.lenOf, Builtin.firstCells, sizeOf, typeInfo, hq, hi, ← hn, hl, hst]
theorem wpList_copy_K {P : Program} {w : World} {ops : Array Oper} {rest : List Oper} {o : Oper} {a : Act} {Q : Exit → Act → World → Prop} (hgd : o.guard = none) (d s : Operand) (dT sT : TypeId)
    (ho : o.op = .call { callee := .builtin .copy, args := #[d, s], argTypes := #[dT, sT] }) (e : TypeId) (sz : Nat) (hu : P.underlying dT = some (.slice e)) (hsz : (P.info? e).map (·.size) = some sz)
    (g n c c2 : Nat) (ad : Addr) (hd : a.eval d = .slice (some ⟨g, 0, none⟩) n c) (hs : a.eval s = .slice (some ad) n c2)
    (base : Nat) (zs : List Value) (hown : w.ownsRow base e sz (.slice (some ⟨g, 0, none⟩) n c) n zs) (e' : TypeId) (xs : List Value) (hr : Reads w e' sz (some ad) n xs) (hn : 0 < n) (h1 : ∀ v ∈ xs, v.oneCell' = true)
    (h : ∀ w', w'.ownsRow base e sz (.slice (some ⟨g, 0, none⟩) n c) n xs → w.grownBy w' (some g) → wpList P ops Q rest (a.put o.dst (goInt n)) w') :
    wpList P ops Q (o :: rest) a w := by
  obtain ⟨_, h2⟩ := hown
  rcases h2 with ⟨h2, _⟩ | ⟨g2, cap, cur, h2, hb, hg, hnc, hcm, hs2, ht⟩
  · cases h2
  · injection h2 with h3 h4 h5
    injection h3 with h3
    injection h3 with h3
    subst h3
    subst h5
    obtain ⟨ad2, e1, _, hc⟩ := hr.2 hn
    injection e1 with e1
    subst e1
    have hfit : xs.length ≤ cur.size := by rw [hr.1, hs2]; exact Nat.mul_le_mul_right _ hnc
    have hrun := run_copy_rowK (P := P) w dT sT o.type e g sz n c ad c2 cur e xs hu hsz hg hr.1 hc hfit h1
    refine wpList_plain hgd fun K hK' => ?_
    unfold Oper.wp
    simp [execOp, ho, resolve, invoke, builtin, hd, hs, hrun, Result.andThen]
    refine hK' _ _ (h _ ⟨hr.1, .inr ⟨g, c, (xs ++ cur.toList.drop xs.length).toArray, rfl, hb, setRow_heap w g cur _ e (0, 0) hg, hnc, hcm, ?_, ?_⟩⟩ ⟨rfl, rfl, rfl, by simp [World.setRow], fun k hk hne => setRow_other w g k _ (fun e => hne (by rw [e]))⟩)
    · simp; omega
    · rw [← hr.1]; simp
def RetIxOwn (n : Nat) (w : World) (e : Ending) (w' : World) : Prop := ∃ (C : Option Addr) (f : Nat), e = .returned (.slice C n f) ∧ Below w.heap.size w w'
set_option maxRecDepth 100000 in
set_option maxHeartbeats 4000000 in
theorem ixOwn_c (ad : Addr) (n c : Nat) (l : List EnA) (w : World) (h : IxIn w (some ad) n c l) (hn0 : 0 < n) :
    Calls Try.prog 69 #[.slice (some ad) n c] w (RetIxOwn n w) := by
  obtain ⟨i0, hi0, hz0, hz1, hz2⟩ := info_parts3 entry_info
  have HI := hid (And.intro hi0 (And.intro hz0 (And.intro hz1 hz2)))
  have hln := h.len
  have hn := h.hn
  have HH := hid h
  have HLN := hid hln
  clear hi0 hz0 hz1 hz2 h hln
  go_enter Try.func69, Try.ntmps69
  obtain ⟨e5, hrd⟩ := HH.out.rd
  have HRD := hid hrd
  have hsz5 : (Try.prog.info? 45).map (·.size) = some 5 := by rw [HI.out.1, Option.map_some, HI.out.2.2.1]
  have HSZ := hid hsz5
  clear hrd hsz5
  go_wp2_with (first | (at_make; refine wpList_make_full _ rfl _ _ 39 rfl w.heap.size 45 i0 (.agg #[.int .i64 0, .int .i64 0, .int .i64 0, .slice none 0 0, .int .i64 0]) 5 Try.underlying39 HI.out.1 HI.out.2.1 HI.out.2.2.1 .i64 .i64 _ _ n rfl rfl rfl rfl (by rw [HI.out.2.2.2]; omega) (by simp only [maxLen]; omega) (Nat.le_refl _) ?_; intro w1 hown1 hg1; have hb1 : Below w.heap.size w w1 := (Below.refl w.heap.size w).grown hg1 (Nat.le_refl _) (by intro k hk; cases hk); have HO1 := hid hown1; have HB1 := hid hb1; clear hown1 hg1 hb1) | (refine wpList_copy_K (o := ⟨some 10, _, _, _, _, _⟩) rfl (.tmp 8) (.tmp 9) 39 39 rfl 45 5 Try.underlying39 HSZ.out w.heap.size n n c ad rfl rfl w.heap.size _ HO1.out e5 (l.flatMap cellsN) (HRD.out.below HB1.out) hn0 (cellsNs_one _) ?_; intro w2 hown2 hg2))
  have HB2 := hid (HB1.out.grown hg2 HB1.out.size (by intro b hb; cases hb; exact Nat.le_refl _))
  have HO2 := hid hown2
  clear hown2 hg2 HO1 HB1 HRD
  generalize (⟨w.heap.size, 0, none⟩ : Addr) = a2 at *
  go_loopw [13] (fun u13 wr => ∃ (k : Nat) (dn : List EnA), k ≤ n ∧ u13 = .int .i64 (k : Nat) ∧ Hid (dn.length = k ∧ wr.ownsRow w.heap.size 45 5 (.slice (some a2) n n) n ((dn ++ l.drop k).flatMap cellsN)) ∧ Hid (Below w.heap.size w wr)) (fun u13 _ => n - (intOf u13).toNat)
  case atStart => exact ⟨0, [], Nat.zero_le _, rfl, hid ⟨rfl, by simpa using HO2.out⟩, HB2⟩
  case round =>
    obtain ⟨k, dn, hk, rfl, hq, hbw⟩ := hrel
    by_cases hkm : k < n
    · obtain ⟨hdl, hown⟩ := hq.out
      obtain ⟨e, he⟩ : ∃ e, l[k]? = some e := ⟨_, List.getElem?_eq_getElem (by have := HLN.out; omega)⟩
      have hdp : l.drop k = e :: l.drop (k + 1) := by rw [List.drop_eq_getElem_cons (List.getElem?_eq_some_iff.1 he).1, (List.getElem?_eq_some_iff.1 he).2]
      rw [hdp] at hown
      obtain ⟨a3, x2, hC, hx2, _, c0, c1, c2, c3, c4⟩ := en_at (Reads.of_own hown) hkm
      injection hC with hC
      subst hC
      rw [List.getElem?_append_right (by omega), hdl, Nat.sub_self, List.getElem?_cons_zero] at hx2
      injection hx2 with hx2
      subst hx2
      obtain ⟨⟨t4, hrp⟩, hp1⟩ := HH.out.ens e (List.mem_of_getElem? he)
      obtain ⟨⟨fs, ls, ct, by_, ps⟩, eA, eC⟩ := e
      obtain ⟨n4, hn4⟩ : ∃ n4, n4 = ps.length := ⟨_, rfl⟩
      simp only at c0 c1 c2 c3 c4 hrp hp1
      rw [← hn4] at c3 hrp hp1
      have HCN := hid (clone_n eA n4 eC ps wr (hrp.below hbw.out) (by omega))
      have hkI : (k : Int) < (n : Int) := by omega
      have hk0 : (0 : Int) ≤ (k : Int) := by omega
      have HF := hid (And.intro hdl (And.intro hn4 hown))
      have HOP := hid (fun W (hW : Below wr.heap.size wr W) (u : Value) => own_put (own_below hown hW) (k := k) (r := 3) (by omega) u)
      clear c0 c1 c2 c4 hrp hp1 hn4 hdp hown hdl hq he
      go_wp2_with fail
      refine HCN.out.mono ?_
      rintro e w3 ⟨C3, f3, rfl, hown3, hb3⟩
      have hop := HOP.out w3 hb3 (.slice C3 n4 f3)
      have hfz := hop.2.1
      have hal := hop.2.2.1
      have hgt := hop.2.2.2.2.2 _ (by rw [← HF.out.1]; exact get_here dn _ _)
      have HAB := hid (And.intro hop.2.2.2.1 hop.2.2.2.2.1)
      have hal2 : (a2.add (k * 5)).block < w3.heap.size := by rw [HAB.out.2]; exact hal
      have HON := hid (show (w3.setCell ⟨(a2.add (k * 5)).block, (a2.add (k * 5)).off + 3, none⟩ (.slice C3 n4 f3)).ownsRow w.heap.size 45 5 (.slice (some a2) n n) n (((dn ++ [((⟨fs, ls, ct, by_, ps⟩, C3, f3) : EnA)]) ++ l.drop (k + 1)).flatMap cellsN) from by
        have h3 := hop.1
        rw [← HF.out.1, set_here dn _ _ ((⟨fs, ls, ct, by_, ps⟩, C3, f3) : EnA) (.slice C3 n4 f3) (by simp [cellsN, HF.out.2.1]), HF.out.1] at h3
        exact h3)
      have HBN := hid ((hbw.out.trans (hb3.mono hbw.out.size)).setCell (p := ⟨(a2.add (k * 5)).block, (a2.add (k * 5)).off + 3, none⟩) (by rw [HAB.out.2]; exact HAB.out.1) (.slice C3 n4 f3))
      clear hop hown3 hb3 HOP HCN c3 hal
      go_wp2_with fail
      go_roundw
      case rel => exact ⟨k + 1, dn ++ [((⟨fs, ls, ct, by_, ps⟩, C3, f3) : EnA)], by omega, by go_num, hid ⟨by rw [List.length_append, HF.out.1]; rfl, HON.out⟩, HBN⟩
      case measure => simp [intOf]; omega
    · obtain rfl : k = n := by omega
      have HF := hid (show RetIxOwn k w (.returned (.slice (some a2) k k)) wr from ⟨_, _, rfl, hbw.out⟩)
      clear hq hbw hkm
      go_wp2_with fail
      go_ret
      exact HF.out
end Go.Proofs.Ytgdnpmjmkcccoaa
namespace Go.Proofs.Ytgdnpmjmkcccoaa
open Go.RowKit Go.Shelf VB
open Go.Lib (hid)
set_option linter.unusedVariables false
set_option linter.unusedSimpArgs false
theorem three_new (w : World) (t : TypeId) (u v x : Value) : Reads (w.alloc (.cells #[u, v, x] t)) t 1 (some ⟨w.heap.size, 0, none⟩) 3 [u, v, x] := by
  have k := Blk.new w t #[u, v, x]
  refine ⟨rfl, fun _ => ⟨_, rfl, k.typed, ?_⟩⟩
  intro j y hy
  match j, hy with
  | 0, hy => obtain rfl : u = y := by simpa using hy
             exact k.cell 0
  | 1, hy => obtain rfl : v = y := by simpa using hy
             exact k.cell 1
  | 2, hy => obtain rfl : x = y := by simpa using hy
             exact k.cell 2
theorem reads_dropE {α : Type} {cf : α → List Value} {sz : Nat} (hs : ∀ x, (cf x).length = sz) (h0 : 0 < sz) {w : World} {e : TypeId} {ad : Addr} {B : Option Addr} {n : Nat} {l : List α} (h : Reads w e sz (some ad) n (l.flatMap cf)) {k : Nat} (hk : k ≤ n) (hB : k < n → B = some (ad.add (k * sz))) : Reads w e sz B (n - k) ((l.drop k).flatMap cf) := by
  have hl : l.length = n := by have := h.1; rw [recs_len hs] at this; exact Nat.eq_of_mul_eq_mul_right h0 this
  refine ⟨by rw [recs_len hs, List.length_drop, hl], fun hk0 => ?_⟩
  obtain ⟨ad', e1, e2, hc⟩ := h.2 (by omega)
  injection e1 with e1
  subst e1
  refine ⟨ad.add (k * sz), hB (by omega), by rw [block_of_add]; exact e2, fun j u hj => ?_⟩
  rw [add_of_add]
  refine hc _ u ?_
  conv => lhs; rw [← List.take_append_drop k l, List.flatMap_append]
  have hlen : ((l.take k).flatMap cf).length = k * sz := by rw [recs_len hs, List.length_take, Nat.min_eq_left (by omega)]
  rw [List.getElem?_append_right (by omega), hlen, Nat.add_sub_cancel_left]
  exact hj
set_option maxRecDepth 100000 in
set_option maxHeartbeats 4000000 in
theorem Repl_c (ad bd : Addr) (n c m cb : Nat) (l bys : List EnA) (w : World) (h : IxIn w (some ad) n c l) (hr : Reads w 45 5 (some ad) n (l.flatMap cellsN)) (hb : Reads w 45 5 (some bd) m (bys.flatMap cellsN)) (hbe : EnsIn w bys)
    (h2 : 2 < n) (hnc : n ≤ c) (hcm : c ≤ maxLen) (hm0 : 0 < m) (hsz : m + n ≤ 100000) (hps : ((bys ++ l.drop 2).flatMap (fun x => x.1.ps)).length ≤ 900000) (hm : mayB (l.map Prod.fst) [] none = true) (hm2 : mayB ((bys ++ l.drop 2).map Prod.fst) [] none = true) :
    Calls Try.prog 31 #[.slice (some ad) n c, .int .i64 0, .int .i64 2, .slice (some bd) m cb] w fun e w' => ∃ (C : Option Addr) (f : Nat), e = .returned (.tuple #[.slice C (m + (n - 2)) f, .int .i64 0]) ∧ Below w.heap.size w w' := by
  have HM := hid (may_ix h hm)
  have hln := h.len
  have hlm : bys.length = m := by have := hb.1; rw [recs_len cellsN_len] at this; omega
  have HH := hid h
  have HR := hid (And.intro hr hb)
  have HBE := hid hbe
  have HS := hid (And.intro hln (And.intro hlm (And.intro hps hm2)))
  have hcI : c ≤ 9223372036854775807 := by unfold maxLen at hcm; omega
  have h2I : ((2 : Nat) : Int) ≤ (n : Int) := by omega
  have h2c : ¬ ((n : Int) < 2) := by omega
  have h2n : 2 ≤ n := by omega
  have hc2 : (c = 2) = False := by simp; omega
  obtain ⟨nn, hnn⟩ : ∃ nn, nn = m + (n - 2) := ⟨_, rfl⟩
  rw [← hnn]
  have HNN := hid hnn
  clear h hr hb hbe hps hm hm2 hln hlm hcm hnn
  go_enter Try.func31, Try.ntmps31
  go_wp2_with fail
  refine HM.out.mono ?_
  rintro e w1 ⟨rfl, hb1⟩
  have HB1 := hid hb1
  clear hb1 HM
  go_upto_region 5 with fail
  refine wp_region_noPanic ?_
  refine wp_region_held_drew (S := fun _ => True) (by kernel_rfl) trivial (fun hHeld => ?_)
  refine wpAnyH_take (i := 0) (v := ?_) rfl (by kernel_rfl) (by kernel_rfl) (by kernel_rfl) (fun _ _ _ h => h) (Or.inl ⟨by rfl, ?_⟩) (by assumption) ?_
  rotate_left
  · intro W hW
    go_simp
    try rfl
  simp only [List.getElem_toArray, List.getElem_cons_zero, Act.put, List.setIfInBounds_toArray, List.set_cons_zero, List.set_cons_succ]
  refine wpAnyH_take (i := 1) (v := ?_) rfl (by kernel_rfl) (by kernel_rfl) (by kernel_rfl) (fun _ _ _ h => h) (Or.inl ⟨by rfl, ?_⟩) (by assumption) ?_
  rotate_left
  · intro W hW
    go_simp
    try rfl
  simp only [List.getElem_toArray, List.getElem_cons_succ, List.getElem_cons_zero, Act.put, List.setIfInBounds_toArray, List.set_cons_zero, List.set_cons_succ]
  refine wpAnyH_take (i := 2) (v := ?_) rfl (by kernel_rfl) (by kernel_rfl) (by kernel_rfl) (fun _ _ _ h => h) (Or.inl ⟨by rfl, ?_⟩) (by assumption) ?_
  rotate_left
  · intro W hW
    go_simp
    try rfl
  simp only [List.getElem_toArray, List.getElem_cons_succ, List.getElem_cons_zero, Act.put, List.setIfInBounds_toArray, List.set_cons_zero, List.set_cons_succ]
  refine wpAnyH_take (i := 3) (v := ?_) rfl (by kernel_rfl) (by kernel_rfl) (by kernel_rfl) (fun _ _ _ h => h) (Or.inl ⟨by rfl, ?_⟩) (by assumption) ?_
  rotate_left
  · intro W hW
    go_simp
    try rfl
  simp only [List.getElem_toArray, List.getElem_cons_succ, List.getElem_cons_zero, Act.put, List.setIfInBounds_toArray, List.set_cons_zero, List.set_cons_succ]
  refine wpAnyH_take (i := 4) (v := ?_) rfl (by kernel_rfl) (by kernel_rfl) (by kernel_rfl) (fun _ _ _ h => h) (Or.inl ⟨by rfl, ?_⟩) (by assumption) ?_
  rotate_left
  · intro W hW
    go_simp
    try rfl
  simp only [List.getElem_toArray, List.getElem_cons_succ, List.getElem_cons_zero, Act.put, List.setIfInBounds_toArray, List.set_cons_zero, List.set_cons_succ]
  refine wpAnyH_take (i := 5) (v := ?_) rfl (by kernel_rfl) (by kernel_rfl) (by kernel_rfl) (fun _ _ _ h => h) (Or.inl ⟨by rfl, ?_⟩) (by assumption) ?_
  rotate_left
  · intro W hW
    go_simp
    try rfl
  simp only [List.getElem_toArray, List.getElem_cons_succ, List.getElem_cons_zero, Act.put, List.setIfInBounds_toArray, List.set_cons_zero, List.set_cons_succ]
  refine wpAnyH_take (i := 6) (v := ?_) rfl (by kernel_rfl) (by kernel_rfl) (by kernel_rfl) (fun _ _ _ h => h) (Or.inl ⟨by rfl, ?_⟩) (by assumption) ?_
  rotate_left
  · intro W hW
    go_simp
    try rfl
  simp only [List.getElem_toArray, List.getElem_cons_succ, List.getElem_cons_zero, Act.put, List.setIfInBounds_toArray, List.set_cons_zero, List.set_cons_succ]
  refine wpAnyH_take (i := 7) (v := ?_) rfl (by kernel_rfl) (by kernel_rfl) (by kernel_rfl) (fun _ _ _ h => h) (Or.inl ⟨by rfl, ?_⟩) (by assumption) ?_
  rotate_left
  · intro W hW
    go_simp
    try rfl
  simp only [List.getElem_toArray, List.getElem_cons_succ, List.getElem_cons_zero, Act.put, List.setIfInBounds_toArray, List.set_cons_zero, List.set_cons_succ]
  have HBD := hid HB1.out.drew
  generalize w1.drew = wd at *
  refine wpAnyH_ready (rs := [8]) (by kernel_rfl) (by simp) ?_
  refine AllReadyH.cons rfl (fun K hK => ?_) AllReadyH.nil
  go_simp
  refine hK.out _ _ trivial (fun hHeld => ?_)
  clear hK K
  try simp only [List.getElem_toArray, List.getElem_cons_succ, List.getElem_cons_zero, Act.put, List.setIfInBounds_toArray, List.set_cons_zero, List.set_cons_succ]
  have HRD := hid (three_new wd 39 (.slice (some ad) 0 0) (.slice (some bd) m cb) (.slice (some ⟨ad.block, ad.off + 10, none⟩) (n - 2) (c - 2)))
  have hb2 : Below w.heap.size w (wd.alloc (.cells #[.slice (some ad) 0 0, .slice (some bd) m cb, .slice (some ⟨ad.block, ad.off + 10, none⟩) (n - 2) (c - 2)] 39)) := HBD.out.alloc HBD.out.size _
  have HB2 := hid hb2
  clear hb2
  generalize wd.alloc (.cells #[.slice (some ad) 0 0, .slice (some bd) m cb, .slice (some ⟨ad.block, ad.off + 10, none⟩) (n - 2) (c - 2)] 39) = w2 at *
  generalize wd.heap.size = g2 at *
  have HCC := hid (show Calls Try.prog 68 #[.slice (some ⟨g2, 0, none⟩) 3 3] w2 (fun e w' => ∃ (C9 : Option Addr) (f9 : Nat), e = .returned (.slice C9 nn f9) ∧ Hid (w'.ownsRow w2.heap.size 45 5 (.slice C9 nn f9) nn ((bys ++ l.drop 2).flatMap cellsN)) ∧ Hid (Below w2.heap.size w2 w')) from by
    have hj : joinedE [⟨some ad, 0, 0, []⟩, ⟨some bd, m, cb, bys⟩, ⟨some ⟨ad.block, ad.off + 10, none⟩, n - 2, c - 2, l.drop 2⟩] = bys ++ l.drop 2 := by simp [joinedE]
    have h := concat_bE (some ⟨g2, 0, none⟩) 3 3 [⟨some ad, 0, 0, []⟩, ⟨some bd, m, cb, bys⟩, ⟨some ⟨ad.block, ad.off + 10, none⟩, n - 2, c - 2, l.drop 2⟩] w2 HRD.out (by
      intro q hq
      simp only [List.mem_cons, List.not_mem_nil, or_false] at hq
      rcases hq with rfl | rfl | rfl
      · exact ⟨by simp, fun h => absurd h (by simp)⟩
      · exact HR.out.2.below HB2.out
      · exact reads_dropE cellsN_len (by decide) (HR.out.1.below HB2.out) h2n (fun _ => by simp [Addr.add])) (by rw [hj, List.length_append, List.length_drop]; have := HS.out.1; have := HS.out.2.1; omega) (by decide)
    rw [hj] at h
    refine h.mono ?_
    rintro e w' ⟨C9, f9, g1, g2', g3⟩
    have hl9 : (bys ++ l.drop 2).length = nn := by rw [List.length_append, List.length_drop, HS.out.1, HS.out.2.1, HNN.out]
    rw [hl9] at g1 g2'
    exact ⟨C9, f9, g1, hid g2', hid g3⟩)
  refine wpAnyH_ready (rs := [9]) (by kernel_rfl) (by simp) ?_
  refine AllReadyH.cons rfl (fun K hK => ?_) AllReadyH.nil
  go_simp
  refine HCC.out.mono ?_
  rintro e w3 ⟨C3, f3, rfl, HOW3, HBB3⟩
  refine hK.out _ _ trivial (fun hHeld => ?_)
  clear hK K
  try simp only [List.getElem_toArray, List.getElem_cons_succ, List.getElem_cons_zero, Act.put, List.setIfInBounds_toArray, List.set_cons_zero, List.set_cons_succ]
  refine wpAnyH_take (i := 10) (v := ?_) rfl (by kernel_rfl) (by kernel_rfl) (by kernel_rfl) (fun _ _ _ h => h) (Or.inl ⟨by rfl, ?_⟩) (by assumption) ?_
  rotate_left
  · intro W hW
    go_simp
    try rfl
  simp only [List.getElem_toArray, List.getElem_cons_succ, List.getElem_cons_zero, Act.put, List.setIfInBounds_toArray, List.set_cons_zero, List.set_cons_succ]
  refine wpAnyH_done (by kernel_rfl) ?_ _
  refine NoPanic.normal ?_
  have hown3 := HOW3.out
  have hb3 := HBB3.out
  have HB3 := hid (HB2.out.trans (hb3.mono HB2.out.size))
  obtain ⟨a3, hC3⟩ : ∃ a3, C3 = some a3 := by
    rcases hown3.2 with ⟨_, h0⟩ | ⟨g, _, _, hv, _⟩
    · have := HNN.out; omega
    · injection hv with hv
      exact ⟨_, hv⟩
  subst hC3
  have HIX := hid (show IxIn w3 (some a3) nn f3 (bys ++ l.drop 2) from ⟨⟨_, Reads.of_own hown3⟩, fun x hx => by
    rcases List.mem_append.1 hx with hx | hx
    · exact EnIn.below (HBE.out x hx) HB3.out
    · exact EnIn.below (HH.out.ens x (List.mem_of_mem_drop hx)) HB3.out, by have := HNN.out; omega, HS.out.2.2.1⟩)
  have HM2 := hid (may_ix HIX.out HS.out.2.2.2)
  clear hown3 hb3 HCC HRD hHeld HOW3 HBB3
  go_wp2_with fail
  refine HM2.out.mono ?_
  rintro e w4 ⟨rfl, hb4⟩
  have HB4 := hid (HB3.out.trans (hb4.mono HB3.out.size))
  have HOX := hid (ixOwn_c a3 nn f3 _ w4 (HIX.out.below hb4) (by have := HNN.out; omega))
  clear hb4 HM2
  go_wp2_with fail
  refine HOX.out.mono ?_
  rintro e w5 ⟨C5, f5, rfl, hb5⟩
  have HB5 := hid (HB4.out.trans (hb5.mono HB4.out.size))
  clear hb5 HOX
  go_wp2_with fail
  go_ret2
  exact ⟨C5, f5, rfl, HB5.out⟩
end Go.Proofs.Ytgdnpmjmkcccoaa
namespace Go.Proofs.Ytgdnpmjmkcccoaa
open Go.RowKit Go.Shelf VB
open Go.Lib (hid)
set_option linter.unusedVariables false
set_option linter.unusedSimpArgs false
/-- what put lays yet -/
def putL (p : Int) : List Int → Bool → List Int
  | [], done => if done = true then [] else [p]
  | x :: l, done => (if (!done && decide (p ≤ x)) = true then [p] else []) ++ ((if x = p then [] else [x]) ++ putL p l (done || decide (p ≤ x)))
theorem putL_true (p : Int) : ∀ l : List Int, (∀ y ∈ l, p < y) → putL p l true = l
  | [], _ => rfl
  | x :: l, h => by
    have h1 := h x List.mem_cons_self
    have ih := putL_true p l (fun y hy => h y (List.mem_cons_of_mem _ hy))
    unfold putL
    rw [if_neg (by simp), if_neg (by omega), Bool.true_or, ih]
    rfl
theorem putL_up (p : Int) : ∀ l : List Int, Up l → putL p l false = putN l p
  | [], _ => rfl
  | x :: l, h => by
    have hc := List.pairwise_cons.1 h
    have ih := putL_up p l hc.2
    unfold putL putN
    by_cases h1 : p < x
    · rw [if_pos (by simp; omega), if_neg (by omega), if_pos h1, Bool.false_or, decide_eq_true (by omega : p ≤ x), putL_true p l (fun y hy => Int.lt_trans h1 (hc.1 y hy))]
      rfl
    · by_cases h2 : p = x
      · subst h2
        rw [if_pos (by simp), if_pos rfl, if_neg h1, if_pos rfl, Bool.false_or, decide_eq_true (Int.le_refl _), putL_true p l hc.1]
        rfl
      · rw [if_neg (by simp; omega), if_neg (fun e => h2 e.symm), if_neg h1, if_neg h2, Bool.false_or, decide_eq_false (by omega), ih]
        rfl
theorem putL_len (p : Int) : ∀ (l : List Int) (d : Bool), (putL p l d).length ≤ 2 * l.length + 1
  | [], d => by unfold putL; split <;> simp
  | x :: l, d => by
    have ih := putL_len p l (d || decide (p ≤ x))
    unfold putL
    rw [List.length_append, List.length_append, List.length_cons]
    split <;> split <;> simp <;> omega
theorem putN_len (n : Int) : ∀ l : List Int, (putN l n).length ≤ l.length + 1
  | [] => by simp [putN]
  | x :: l => by
    have ih := putN_len n l
    unfold putN
    split
    · simp
    · split
      · simp
      · simp; omega
def RetInts (l : List Int) (w : World) (e : Ending) (w' : World) : Prop :=
  ∃ (k f : Nat) (C : Option Addr), k = l.length ∧ e = .returned (.slice C k f) ∧ w'.ownsRow w.heap.size 3 1 (.slice C k f) k (l.map (Value.int .i64)) ∧ Below w.heap.size w w'
set_option maxRecDepth 100000 in
set_option maxHeartbeats 4000000 in
theorem put_c {e1 : TypeId} (A : Option Addr) (n c : Nat) (l : List Int) (p : Int) (w : World) (h : Reads w e1 1 A n (l.map (Value.int .i64))) (hn : n ≤ 1000000) :
    Calls Try.prog 64 #[.slice A n c, .int .i64 p] w (RetInts (putL p l false) w) := by
  have hl : l.length = n := by have := h.1; simpa using this
  have HL := hid hl
  have HM := hid h
  obtain ⟨R, hR⟩ : ∃ R, R = putL p l false := ⟨_, rfl⟩
  have hRl : R.length ≤ 2000001 := by have := putL_len p l false; rw [← hR] at this; omega
  rw [← hR]
  have HR := hid hR
  clear h hl hR
  go_enter Try.func64, Try.ntmps64
  go_wp2_with fail
  go_loopw [5, 6, 7] (fun u5 u6 u7 wr => ∃ (i k f : Nat) (C : Option Addr) (acc : List Int) (d : Bool), i ≤ n ∧ k ≤ 2000001 ∧ u7 = .int .i64 (i : Nat) ∧ u6 = .bool d ∧ u5 = .slice C k f ∧ Hid (k = acc.length ∧ R = acc ++ putL p (l.drop i) d) ∧ wr.ownsRow w.heap.size 3 1 (.slice C k f) k (acc.map (Value.int .i64)) ∧ Below w.heap.size w wr) (fun _ _ u7 _ => n - (intOf u7).toNat)
  case atStart => exact ⟨0, 0, 0, none, [], false, Nat.zero_le _, by omega, rfl, rfl, rfl, hid ⟨rfl, HR.out⟩, World.ownsRow_nil _ _ _ _, Below.refl _ _⟩
  case round =>
    obtain ⟨i, k, f, C, acc, d, hi, hk, rfl, rfl, rfl, hacc, hown, hb⟩ := hrel
    by_cases hlt : i < n
    · obtain ⟨ad, u, rfl, hu, hc⟩ := (HM.out.below hb).at_ hlt
      have hil : i < l.length := by have := HL.out; omega
      rw [List.getElem?_map, List.getElem?_eq_getElem hil] at hu
      obtain ⟨x, hx⟩ : ∃ x, x = l[i] := ⟨_, rfl⟩
      rw [← hx] at hu
      injection hu with hu
      subst hu
      have HC := hid (fun W (hW : Below w.heap.size w W) => (show W.cell? (ad.add i) = some (.int .i64 x) by
        obtain ⟨ad', u', e, hu', hc'⟩ := (HM.out.below hW).at_ hlt
        injection e with e
        rw [List.getElem?_map, List.getElem?_eq_getElem hil, ← hx] at hu'
        injection hu' with hu'
        rw [e, hc', ← hu']))
      have hdr : l.drop i = x :: l.drop (i + 1) := by rw [List.drop_eq_getElem_cons hil, hx]
      have hstep := hacc.out.2
      rw [hdr, putL] at hstep
      have hlen := congrArg List.length hstep
      rw [List.length_append, ← hacc.out.1] at hlen
      have HK := hid hacc.out.1
      have HOWN := hid hown
      have HB := hid hb
      have hi0 : (0 : Int) ≤ (i : Int) := by omega
      have hiI : (i : Int) < (n : Int) := by omega
      clear hx hil hdr hacc
      cases d with
      | true =>
        by_cases hxp : x = p
        · have hxpB : (x != p) = false := by simp [hxp]
          have HS := hid (show R = acc ++ putL p (l.drop (i + 1)) true by rw [hstep]; simp [hxp])
          have HKN := hid (show k = (acc).length by have := HK.out; (try simp); omega)
          have hkb : k ≤ 2000001 := by have h1 := congrArg List.length HS.out; rw [List.length_append, ← HKN.out] at h1; omega
          clear hstep hlen hb hown
          go_wp2_with fail
          go_roundw
          case rel => exact ⟨i + 1, k, f, C, acc, true, by omega, hkb, by go_num, rfl, rfl, hid ⟨HKN.out, HS.out⟩, by simpa using HOWN.out, HB.out⟩
          case measure => simp [intOf]; omega
        · have hxpB : (x != p) = true := by simp [hxp]
          have HS := hid (show R = (acc ++ [x]) ++ putL p (l.drop (i + 1)) true by rw [hstep]; simp [hxp])
          have HKN := hid (show k + 1 = ((acc ++ [x])).length by have := HK.out; (try simp); omega)
          have hkb : k + 1 ≤ 2000001 := by have h1 := congrArg List.length HS.out; rw [List.length_append, ← HKN.out] at h1; omega
          clear hstep hlen hb hown
          go_wp2_with (first | (at_builtin; refine wpList_push rfl (.tmp 34) (.tmp 39) 43 rfl w.heap.size 3 (.int .i64 0) 8 Try.underlying43 int_info rfl C (k) f _ rfl HOWN.out rfl rfl (by omega) (by omega) HB.out.size ?_; intro C3 f3 w3 hown3 hb3))
          go_roundw
          case rel => exact ⟨i + 1, k + 1, f3, C3, (acc ++ [x]), true, by omega, hkb, by go_num, rfl, rfl, hid ⟨HKN.out, HS.out⟩, by simpa using hown3, (HB.out.trans hb3)⟩
          case measure => simp [intOf]; omega
      | false =>
        by_cases hpx : p ≤ x
        · by_cases hxp : x = p
          · have hxpB : (x != p) = false := by simp [hxp]
            have HS := hid (show R = (acc ++ [p]) ++ putL p (l.drop (i + 1)) true by rw [hstep]; simp [hxp])
            have HKN := hid (show k + 1 = ((acc ++ [p])).length by have := HK.out; (try simp); omega)
            have hkb : k + 1 ≤ 2000001 := by have h1 := congrArg List.length HS.out; rw [List.length_append, ← HKN.out] at h1; omega
            clear hstep hlen hb hown
            go_wp2_with (first | (at_builtin; refine wpList_push rfl (.tmp 24) (.tmp 26) 43 rfl w.heap.size 3 (.int .i64 0) 8 Try.underlying43 int_info rfl C (k) f _ rfl HOWN.out rfl rfl (by omega) (by omega) HB.out.size ?_; intro C2 f2 w2 hown2 hb2; have hc2 := HC.out w2 (HB.out.trans hb2)))
            go_roundw
            case rel => exact ⟨i + 1, k + 1, f2, C2, (acc ++ [p]), true, by omega, hkb, by go_num, rfl, rfl, hid ⟨HKN.out, HS.out⟩, by simpa using hown2, (HB.out.trans hb2)⟩
            case measure => simp [intOf]; omega
          · have hxpB : (x != p) = true := by simp [hxp]
            have HS := hid (show R = (acc ++ [p] ++ [x]) ++ putL p (l.drop (i + 1)) true by rw [hstep]; simp [hxp, hpx])
            have HKN := hid (show k + 1 + 1 = ((acc ++ [p] ++ [x])).length by have := HK.out; (try simp); omega)
            have hkb : k + 1 + 1 ≤ 2000001 := by have h1 := congrArg List.length HS.out; rw [List.length_append, ← HKN.out] at h1; omega
            clear hstep hlen hb hown
            go_wp2_with (first | (at_builtin; refine wpList_push rfl (.tmp 24) (.tmp 26) 43 rfl w.heap.size 3 (.int .i64 0) 8 Try.underlying43 int_info rfl C (k) f _ rfl HOWN.out rfl rfl (by omega) (by omega) HB.out.size ?_; intro C2 f2 w2 hown2 hb2; have hc2 := HC.out w2 (HB.out.trans hb2)) | (at_builtin; refine wpList_push rfl (.tmp 34) (.tmp 39) 43 rfl w.heap.size 3 (.int .i64 0) 8 Try.underlying43 int_info rfl C2 (k + 1) f2 _ rfl hown2 rfl rfl (by omega) (by omega) (Nat.le_trans HB.out.size hb2.size) ?_; intro C3 f3 w3 hown3 hb3))
            go_roundw
            case rel => exact ⟨i + 1, k + 1 + 1, f3, C3, (acc ++ [p] ++ [x]), true, by omega, hkb, by go_num, rfl, rfl, hid ⟨HKN.out, HS.out⟩, by simpa using hown3, ((HB.out.trans hb2).trans hb3)⟩
            case measure => simp [intOf]; omega
        · have hxp : ¬ x = p := fun e => hpx (by rw [e]; exact Int.le_refl _)
          have hxpB : (x != p) = true := by simp [hxp]
          have HS := hid (show R = (acc ++ [x]) ++ putL p (l.drop (i + 1)) false by rw [hstep]; simp [hxp, hpx])
          have HKN := hid (show k + 1 = ((acc ++ [x])).length by have := HK.out; (try simp); omega)
          have hkb : k + 1 ≤ 2000001 := by have h1 := congrArg List.length HS.out; rw [List.length_append, ← HKN.out] at h1; omega
          clear hstep hlen hb hown
          go_wp2_with (first | (at_builtin; refine wpList_push rfl (.tmp 34) (.tmp 39) 43 rfl w.heap.size 3 (.int .i64 0) 8 Try.underlying43 int_info rfl C (k) f _ rfl HOWN.out rfl rfl (by omega) (by omega) HB.out.size ?_; intro C3 f3 w3 hown3 hb3))
          go_roundw
          case rel => exact ⟨i + 1, k + 1, f3, C3, (acc ++ [x]), false, by omega, hkb, by go_num, rfl, rfl, hid ⟨HKN.out, HS.out⟩, by simpa using hown3, (HB.out.trans hb3)⟩
          case measure => simp [intOf]; omega
    · obtain rfl : i = n := by omega
      have hdr : l.drop i = [] := List.drop_of_length_le (by have := HL.out; omega)
      have hstep := hacc.out.2
      rw [hdr] at hstep
      have HK := hid hacc.out.1
      have HOWN := hid hown
      have HB := hid hb
      clear hacc hdr
      cases d with
      | true =>
        have HS := hid (show R = acc by rw [hstep]; simp [putL])
        clear hstep hown hb
        go_wp2_with fail
        go_ret
        exact ⟨k, f, C, by rw [HS.out]; exact HK.out, rfl, by rw [HS.out]; exact HOWN.out, HB.out⟩
      | false =>
        have HS := hid (show R = acc ++ [p] by rw [hstep]; simp [putL])
        have hkb : k + 1 ≤ 2000001 := by have h1 := congrArg List.length HS.out; rw [List.length_append, ← HK.out, List.length_singleton] at h1; omega
        clear hstep hown hb
        go_wp2_with (at_builtin; refine wpList_push rfl (.tmp 43) (.tmp 45) 43 rfl w.heap.size 3 (.int .i64 0) 8 Try.underlying43 int_info rfl C (k) f _ rfl HOWN.out rfl rfl (by omega) (by omega) HB.out.size ?_; intro C2 f2 w2 hown2 hb2)
        go_ret
        exact ⟨k + 1, f2, C2, by rw [HS.out, List.length_append, ← HK.out]; rfl, rfl, by rw [HS.out]; simpa using hown2, HB.out.trans hb2⟩
end Go.Proofs.Ytgdnpmjmkcccoaa
namespace Go.Proofs.Ytgdnpmjmkcccoaa
open Go.RowKit Go.Shelf VB
open Go.Lib (hid)
set_option linter.unusedVariables false
set_option linter.unusedSimpArgs false
theorem foldl_len : ∀ (ps l : List Int), (ps.foldl putN l).length ≤ l.length + ps.length
  | [], l => by simp
  | p :: ps, l => by
    have h1 := foldl_len ps (putN l p)
    have h2 := putN_len p l
    rw [List.foldl_cons, List.length_cons]
    omega
/-- what has been put so far -/
def PutIn (w : World) (ps : List Int) (v : Value) (W : World) : Prop :=
  ∃ (k f : Nat) (C : Option Addr), v = .slice C k f ∧ k = (allPut ps).length ∧ W.ownsRow w.heap.size 3 1 (.slice C k f) k ((allPut ps).map (Value.int .i64)) ∧ Below w.heap.size w W
theorem PutIn.bel {w W : World} {ps : List Int} {v : Value} (h : PutIn w ps v W) : Below w.heap.size w W := by obtain ⟨_, _, _, _, _, _, hb⟩ := h; exact hb
theorem PutIn.step {w W W' : World} {ps : List Int} {v : Value} {p : Int} {e : Ending} (h : PutIn w ps v W) (hr : RetInts (putL p (allPut ps) false) W e W') : ∃ v', e = .returned v' ∧ PutIn w (ps ++ [p]) v' W' := by
  obtain ⟨k, f, C, rfl, h2, h3, h4⟩ := h
  obtain ⟨k2, f2, C2, g1, rfl, g3, g4⟩ := hr
  have hu := (up_all ps [] List.Pairwise.nil).1
  have e1 : allPut (ps ++ [p]) = putL p (allPut ps) false := by
    rw [putL_up p (allPut ps) hu]
    unfold allPut
    rw [List.foldl_append]
    rfl
  exact ⟨_, rfl, k2, f2, C2, rfl, by rw [e1]; exact g1, by rw [e1]; exact own_low g3 h4.size, h4.trans (g4.mono h4.size)⟩
theorem PutIn.put {w W : World} {ps : List Int} {v : Value} (h : PutIn w ps v W) (hp : ps.length ≤ 900000) (p : Int) :
    Calls Try.prog 64 #[v, .int .i64 p] W fun e W' => ∃ v', e = .returned v' ∧ PutIn w (ps ++ [p]) v' W' := by
  have h' := h
  obtain ⟨k, f, C, rfl, h2, h3, h4⟩ := h'
  have hl := foldl_len ps []
  refine (put_c C k f (allPut ps) p W (Reads.of_own h3) (by unfold allPut at h2; simp at hl; omega)).mono fun e W' hr => h.step hr
set_option maxRecDepth 100000 in
set_option maxHeartbeats 4000000 in
theorem RPages_c (A : Option Addr) (n c : Nat) (L : List Rw) (w : World) (h : PgIn w A n c L) (ht : (allP L).length ≤ 900000) :
    Calls Try.prog 28 #[.slice A n c] w (RetInts (allPut (allP L)) w) := by
  have HM := hid h
  have HLN := hid h.len
  have HT := hid ht
  have hn := h.hn
  clear h ht
  go_enter Try.func28, Try.ntmps28
  go_wp2_with fail
  go_loopw [3, 4] (fun u3 u4 wr => ∃ i : Nat, i ≤ n ∧ u4 = .int .i64 (i : Nat) ∧ Hid (PutIn w (allP (L.take i)) u3 wr)) (fun _ u4 _ => n - (intOf u4).toNat)
  case atStart => exact ⟨0, Nat.zero_le _, rfl, hid ⟨0, 0, none, rfl, rfl, World.ownsRow_nil _ _ _ _, Below.refl _ _⟩⟩
  case round =>
    obtain ⟨i, hi, rfl, hp⟩ := hrel
    by_cases hlt : i < n
    · have hxl : i < L.length := by have := HLN.out; omega
      obtain ⟨x, hx⟩ : ∃ x, x = L[i] := ⟨_, rfl⟩
      have htk : L.take (i + 1) = L.take i ++ [x] := by rw [List.take_succ_eq_append_getElem hxl, hx]
      have HAL := hid (show allP (L.take (i + 1)) = allP (L.take i) ++ pgsA x.1 by rw [htk, allP_app]; simp [allP])
      have HXM := hid (show x ∈ L by rw [hx]; exact List.getElem_mem hxl)
      obtain ⟨en, ea, ec⟩ := x
      obtain ⟨q, hq⟩ : ∃ q, q = en.length := ⟨_, rfl⟩
      have HQ := hid hq
      have hq5 : q ≤ 50000 := by rw [hq]; exact (HM.out.each _ HXM.out).2.2
      obtain ⟨A0, rfl⟩ : ∃ ad, A = some ad := by
        obtain ⟨er, hrw⟩ := HM.out.rows
        obtain ⟨ad, _, h1, _⟩ := hrw.at_ hlt
        exact ⟨ad, h1⟩
      -- the row's cell, wherever the walk stands
      have HCI := hid (fun W (hW : Below w.heap.size w W) => (show W.cell? (A0.add i) = some (.slice ea q ec) by
        obtain ⟨er, hrw⟩ := (HM.out.below hW).rows
        obtain ⟨ad, u, h1, hu, cu⟩ := hrw.at_ hlt
        injection h1 with h1
        subst h1
        rw [List.getElem?_map, List.getElem?_eq_getElem hxl, ← hx] at hu
        injection hu with hu
        rw [cu, ← hu, hq]
        rfl))
      have hiI : (i : Int) < (n : Int) := by omega
      have hi0 : (0 : Int) ≤ (i : Int) := by omega
      have HP0 := hid (show PutIn w (allP (L.take i) ++ pgsA (en.take 0)) u3 wr by simpa [pgsA] using hp.out)
      have hbp : Below w.heap.size w wr := by obtain ⟨_, _, _, _, _, _, hb⟩ := hp.out; exact hb
      have ci := HCI.out wr hbp
      clear hx htk hq hxl hp hbp
      go_wp2_with fail
      go_loopw [3, 5] (fun u3 u5 wi => ∃ j : Nat, j ≤ q ∧ u5 = .int .i64 (j : Nat) ∧ Hid (PutIn w (allP (L.take i) ++ pgsA (en.take j)) u3 wi)) (fun _ u5 _ => q - (intOf u5).toNat)
      case atStart => exact ⟨0, Nat.zero_le _, rfl, HP0⟩
      case round =>
        obtain ⟨j, hj, rfl, hp⟩ := hrel
        have ci2 := HCI.out wr hp.out.bel
        clear ci
        by_cases hjq : j < q
        · have hyl : j < en.length := by have := HQ.out; omega
          obtain ⟨y, hy⟩ : ∃ y, y = en[j] := ⟨_, rfl⟩
          have htj : en.take (j + 1) = en.take j ++ [y] := by rw [List.take_succ_eq_append_getElem hyl, hy]
          have HPJ := hid (show pgsA (en.take (j + 1)) = pgsA (en.take j) ++ y.1.ps by rw [htj, pgsA_app]; simp [pgsA])
          have HYM := hid (show y ∈ en by rw [hy]; exact List.getElem_mem hyl)
          obtain ⟨E0, rfl⟩ : ∃ ed, ea = some ed := by
            obtain ⟨ei, hen⟩ := (HM.out.each _ HXM.out).1
            obtain ⟨ed, _, h1, _⟩ := en_at (n := en.length) hen hyl
            exact ⟨ed, h1⟩
          obtain ⟨⟨fs, ls, ct, by_, ps⟩, pa, pc⟩ := y
          obtain ⟨r, hr⟩ : ∃ r, r = ps.length := ⟨_, rfl⟩
          have HR := hid hr
          have hr5 : r ≤ 100000 := by rw [hr]; exact ((HM.out.each _ HXM.out).2.1 _ HYM.out).2
          have HCE := hid (fun W (hW : Below w.heap.size w W) => (show W.cell? ⟨(E0.add (j * 5)).block, (E0.add (j * 5)).off + 3, none⟩ = some (.slice pa r pc) by
            obtain ⟨ei, hen⟩ := ((HM.out.below hW).each _ HXM.out).1
            obtain ⟨ed, y2, h1, hy2, _, _, _, _, d3, _⟩ := en_at (n := en.length) hen hyl
            injection h1 with h1
            subst h1
            rw [List.getElem?_eq_getElem hyl, ← hy] at hy2
            injection hy2 with hy2
            subst hy2
            rw [d3, hr]))
          have hjI : (j : Int) < (q : Int) := by omega
          have hj0 : (0 : Int) ≤ (j : Int) := by omega
          have HP1 := hid (show PutIn w ((allP (L.take i) ++ pgsA (en.take j)) ++ ps.take 0) u3 wr by simpa using hp.out)
          simp only at HPJ
          clear hy htj hr hyl hp
          go_wp2_with fail
          go_loopw [3, 6] (fun u3 u6 wi => ∃ z : Nat, z ≤ r ∧ u6 = .int .i64 (z : Nat) ∧ Hid (PutIn w ((allP (L.take i) ++ pgsA (en.take j)) ++ ps.take z) u3 wi)) (fun _ u6 _ => r - (intOf u6).toNat)
          case atStart => exact ⟨0, Nat.zero_le _, rfl, HP1⟩
          case round =>
            obtain ⟨z, hz, rfl, hp⟩ := hrel
            have ci3 := HCI.out wr hp.out.bel
            have ce3 := HCE.out wr hp.out.bel
            clear ci2
            by_cases hzr : z < r
            · have hzl : z < ps.length := by have := HR.out; omega
              obtain ⟨p, hpp⟩ : ∃ p, p = ps[z] := ⟨_, rfl⟩
              obtain ⟨pd, rfl, cp⟩ : ∃ pd, pa = some pd ∧ wr.cell? (pd.add z) = some (.int .i64 p) := by
                obtain ⟨ep, hpr⟩ := (((HM.out.below hp.out.bel).each _ HXM.out).2.1 _ HYM.out).1
                obtain ⟨pd, v, h1, hv, cv⟩ := hpr.at_ (show z < ps.length from hzl)
                rw [List.getElem?_map, List.getElem?_eq_getElem hzl, ← hpp] at hv
                injection hv with hv
                exact ⟨pd, h1, by rw [cv, ← hv]⟩
              have hti : ps.take (z + 1) = ps.take z ++ [p] := by rw [List.take_succ_eq_append_getElem hzl, hpp]
              have HTI := hid (show ((allP (L.take i) ++ pgsA (en.take j)) ++ ps.take z) ++ [p] = (allP (L.take i) ++ pgsA (en.take j)) ++ ps.take (z + 1) by rw [hti]; simp only [List.append_assoc])
              have hlen : ((allP (L.take i) ++ pgsA (en.take j)) ++ ps.take z).length ≤ 900000 := by
                have h1 := congrArg (fun t : List Rw => (allP t).length) (List.take_append_drop (i + 1) L)
                simp only [allP_app, List.length_append] at h1
                have h2 := congrArg List.length HAL.out
                have h3 := congrArg (fun t : List EnA => (pgsA t).length) (List.take_append_drop (j + 1) en)
                simp only [pgsA_app, List.length_append] at h3
                have h4 := congrArg List.length HPJ.out
                have h5 := HT.out
                have h6 := HR.out
                rw [List.length_append] at h2 h4
                rw [List.length_append, List.length_append, List.length_take]
                omega
              have HC := hid (hp.out.put hlen p)
              have hzI : (z : Int) < (r : Int) := by omega
              have hz0 : (0 : Int) ≤ (z : Int) := by omega
              clear hti hlen hpp hzl hp
              go_wp2_with fail
              refine HC.out.mono ?_
              rintro e w2 ⟨v2, rfl, hp2⟩
              have HP2 := hid (show PutIn w ((allP (L.take i) ++ pgsA (en.take j)) ++ ps.take (z + 1)) v2 w2 by rw [← HTI.out]; exact hp2)
              clear hp2 HC ci3 ce3 cp
              go_wp2_with fail
              go_roundw
              case rel => exact ⟨z + 1, by omega, by go_num, HP2⟩
              case measure => simp [intOf]; omega
            · obtain rfl : z = r := by omega
              have HN := hid (show PutIn w (allP (L.take i) ++ pgsA (en.take (j + 1))) u3 wr by
                have h := hp.out
                rw [List.take_of_length_le (Nat.le_of_eq HR.out.symm)] at h
                rw [HPJ.out, ← List.append_assoc]; exact h)
              clear hp hzr
              go_wp2_with fail
              go_roundw
              case rel => exact ⟨j + 1, by omega, by go_num, HN⟩
              case measure => simp [intOf]; omega
        · obtain rfl : j = q := by omega
          have HN := hid (show PutIn w (allP (L.take (i + 1))) u3 wr by
            have h := hp.out
            rw [List.take_of_length_le (Nat.le_of_eq HQ.out.symm)] at h
            rw [HAL.out]; exact h)
          clear hp hjq
          go_wp2_with fail
          go_roundw
          case rel => exact ⟨i + 1, by omega, by go_num, HN⟩
          case measure => simp [intOf]; omega
    · obtain rfl : i = n := by omega
      have HF := hid (show PutIn w (allP L) u3 wr by
        have h := hp.out
        rw [List.take_of_length_le (Nat.le_of_eq HLN.out)] at h
        exact h)
      clear hp hlt
      obtain ⟨k, f, C, hv, h1, h2, h3⟩ := HF.out
      subst hv
      have HG := hid (show RetInts (allPut (allP L)) w (.returned (.slice C k f)) wr from ⟨k, f, C, h1, rfl, h2, h3⟩)
      clear h1 h2 h3 HF
      go_wp2_with fail
      go_ret
      exact HG.out
end Go.Proofs.Ytgdnpmjmkcccoaa
namespace Go.Proofs.Ytgdnpmjmkcccoaa
open Go.RowKit Go.Shelf VB
open Go.Lib (hid)
set_option linter.unusedVariables false
set_option linter.unusedSimpArgs false
def wkP : List En := [⟨5, 9, 3, 40, [20]⟩, ⟨10, 10, 1, 9, [21]⟩, ⟨30, 50, 4, 200, [25, 24]⟩]
def wkL (s : Nat) : List EnA := [(⟨5, 9, 3, 40, [20]⟩, some ⟨s, 0, none⟩, 1), (⟨10, 10, 1, 9, [21]⟩, some ⟨s + 1, 0, none⟩, 1), (⟨30, 50, 4, 200, [25, 24]⟩, some ⟨s + 1 + 1, 0, none⟩, 2)]
theorem wkL_fst (s : Nat) : (wkL s).map Prod.fst = wkP := rfl
theorem wk_may : mayB wkP [] none = true := by kernel_rfl
theorem wk_may2 : mayB [⟨5, 10, 4, 50, [30]⟩, ⟨30, 50, 4, 200, [25, 24]⟩] [] none = true := by kernel_rfl
theorem wk_not : mayB (wkP ++ [⟨5, 9, 3, 40, [20]⟩]) [] none = false := by kernel_rfl
theorem wk_f9 : fromL wkP 9 = 0 := by kernel_rfl
theorem wk_t10 : toL wkP 10 = 2 := by kernel_rfl
theorem wk_f40 : fromL wkP 40 = 2 := by kernel_rfl
theorem wk_t40 : toL wkP 40 = 3 := by kernel_rfl
theorem wk_cnt : cntL wkP = 8 := by kernel_rfl
theorem wk_pgs : sortI (firsts [] [20, 21, 25, 24]) = [20, 21, 24, 25] := (sort_put _).trans (by kernel_rfl)
/-- the index of wakes, in memory -/
def WkIn (s : Nat) (W : World) : Prop :=
  W.ownsRow s 45 5 (.slice (some ⟨s + 1 + 1 + 1, 0, none⟩) 3 3) 3 ((wkL s).flatMap cellsN) ∧ ∀ x ∈ wkL s, EnFr W x
theorem WkIn.below {s : Nat} {W W' : World} (h : WkIn s W) (hb : Below W.heap.size W W') : WkIn s W' := ⟨own_below h.1 hb, fun x hx => (h.2 x hx).below hb⟩
theorem WkIn.ens {s : Nat} {W : World} (h : WkIn s W) : EnsIn W (wkL s) := fun x hx => ⟨⟨_, (h.2 x hx).1⟩, Nat.le_trans (h.2 x hx).2 (by decide)⟩
theorem WkIn.ix {s : Nat} {W : World} (h : WkIn s W) : IxIn W (some ⟨s + 1 + 1 + 1, 0, none⟩) 3 3 (wkL s) := ⟨⟨_, Reads.of_own h.1⟩, h.ens, by decide, (by decide : (wkP.flatMap En.ps).length ≤ 900000)⟩
theorem wk_new (w : World) : WkIn w.heap.size ((((w.alloc (.cells #[.int .i64 20] 3)).alloc (.cells #[.int .i64 21] 3)).alloc (.cells #[.int .i64 25, .int .i64 24] 3)).alloc
    (.cells #[.int .i64 5, .int .i64 9, .int .i64 3, .slice (some ⟨w.heap.size, 0, none⟩) 1 1, .int .i64 40, .int .i64 10, .int .i64 10, .int .i64 1, .slice (some ⟨w.heap.size + 1, 0, none⟩) 1 1, .int .i64 9, .int .i64 30, .int .i64 50, .int .i64 4, .slice (some ⟨w.heap.size + 1 + 1, 0, none⟩) 2 2, .int .i64 200] 45)) := by
  have a0 := Reads.of_own (own_newR w 3 1 1 [.int .i64 20] rfl (by decide))
  have a1 := Reads.of_own (own_newR (w.alloc (.cells #[.int .i64 20] 3)) 3 1 1 [.int .i64 21] rfl (by decide))
  have a2 := Reads.of_own (own_newR ((w.alloc (.cells #[.int .i64 20] 3)).alloc (.cells #[.int .i64 21] 3)) 3 1 2 [.int .i64 25, .int .i64 24] rfl (by decide))
  have a3 := own_newR (((w.alloc (.cells #[.int .i64 20] 3)).alloc (.cells #[.int .i64 21] 3)).alloc (.cells #[.int .i64 25, .int .i64 24] 3)) 45 5 3 ((wkL w.heap.size).flatMap cellsN) rfl (by decide)
  simp only [World.size_alloc] at a1 a2 a3
  refine ⟨own_low a3 (by omega), fun x hx => ?_⟩
  simp only [wkL, List.mem_cons, List.not_mem_nil, or_false] at hx
  rcases hx with rfl | rfl | rfl
  · exact ⟨((a0.alloc _).alloc _).alloc _, Nat.le_of_ble_eq_true rfl⟩
  · exact ⟨(a1.alloc _).alloc _, Nat.le_of_ble_eq_true rfl⟩
  · exact ⟨a2.alloc _, Nat.le_of_ble_eq_true rfl⟩
theorem wpList_append_anyG {P : Program} (w : World) {ops : Array Oper} {rest : List Oper} {o : Oper} {a : Act} {Q : Exit → Act → World → Prop} (hw : Region.wanted o (yielded ops a.tmps) = true) (s x : Operand) (t : TypeId)
    (ho : o.op = .call { callee := .builtin .append, args := #[s, x], argTypes := #[t, t] })
    (base : Nat) (e : TypeId) (i : TypeInfo) (z : Value) (size bytes : Nat) (ht : P.underlying t = some (.slice e)) (hi : P.info? e = some i) (hz : i.zero = some z)
    (hsize : i.size = size) (hby : i.bytes = bytes) (hzs : z.cells.size = size) (hsz : 0 < size)
    (v : Value) (n : Nat) (xs : List Value) (hs : a.eval s = v) (hown : w.ownsRow base e size v n xs)
    (A : Option Addr) (m c : Nat) (news : List Value) (hx : a.eval x = .slice A m c) (hr : Reads w e size A m news) (h1 : ∀ u ∈ news, u.oneCell' = true)
    (h63 : n + m ≤ maxLen) (hbytes : (n + m) * bytes ≤ 140737488355328) (hbase : base ≤ w.heap.size)
    (h : ∀ v' w', w'.ownsRow base e size v' (n + m) (xs ++ news) → w.grownBy w' v.ownBlock → wpList P ops Q rest (a.put o.dst v') w') : wpList P ops Q (o :: rest) a w := by
  simp only [wpList, hw, if_true]
  exact .inl (wp_append_any w s x t ho base e i z size bytes ht hi hz hsize hby hzs hsz v n xs hs hown A m c news hx hr h1 h63 hbytes hbase fun v' w' a b _ => h v' w' a b)
set_option maxRecDepth 100000 in
set_option maxHeartbeats 4000000 in
theorem wakes_21 (w : World) : Calls Try.prog 24 #[] w fun e w' => e = .returned (.bool true) ∧ Below w.heap.size w w' := by
  obtain ⟨i0, hi0, hz0, hz1, hz2⟩ := info_parts3 entry_info
  have HI := hid (And.intro hi0 (And.intro hz0 (And.intro hz1 hz2)))
  obtain ⟨W1, hW1⟩ : ∃ W1, W1 = (((w.alloc (.cells #[.int .i64 20] 3)).alloc (.cells #[.int .i64 21] 3)).alloc (.cells #[.int .i64 25, .int .i64 24] 3)).alloc
    (.cells #[.int .i64 5, .int .i64 9, .int .i64 3, .slice (some ⟨w.heap.size, 0, none⟩) 1 1, .int .i64 40, .int .i64 10, .int .i64 10, .int .i64 1, .slice (some ⟨w.heap.size + 1, 0, none⟩) 1 1, .int .i64 9, .int .i64 30, .int .i64 50, .int .i64 4, .slice (some ⟨w.heap.size + 1 + 1, 0, none⟩) 2 2, .int .i64 200] 45) := ⟨_, rfl⟩
  have HK := hid (show WkIn w.heap.size W1 by rw [hW1]; exact wk_new w)
  have HB := hid (show Below w.heap.size w W1 by rw [hW1]; exact ((((Below.refl _ _).alloc (Nat.le_refl _) _).alloc (by simp) _).alloc (by simp; omega) _).alloc (by simp; omega) _)
  have HF := hid (Find_c _ 3 3 _ 9 10 W1 HK.out.ix wk_may)
  rw [wkL_fst, wk_f9, wk_t10] at HF
  have HW1 := hid hW1
  clear hi0 hz0 hz1 hz2 hW1
  go_enter Try.func24, Try.ntmps24
  go_wp2_with fail
  rw [← HW1.out]
  refine HF.out.mono ?_
  rintro e w2 ⟨rfl, hb2⟩
  replace HK := hid (HK.out.below hb2)
  replace HB := hid (HB.out.trans (hb2.mono HB.out.size))
  have HA := hid (At_c _ 3 3 _ 40 w2 HK.out.ix wk_may (by rw [wkL_fst, wk_f40, wk_t40]; decide))
  rw [wkL_fst, wk_f40] at HA
  clear hb2 HF HW1
  go_wp2_with fail
  refine HA.out.mono ?_
  rintro e w3 ⟨rfl, hb3⟩
  replace HK := hid (HK.out.below hb3)
  replace HB := hid (HB.out.trans (hb3.mono HB.out.size))
  clear hb3 HA
  obtain ⟨w4, hw4⟩ : ∃ w4, w4 = (w3.alloc (.cells #[.int .i64 30] 3)).alloc (.cells #[.int .i64 5, .int .i64 10, .int .i64 4, .slice (some ⟨w3.heap.size, 0, none⟩) 1 1, .int .i64 50] 45) := ⟨_, rfl⟩
  have hb4 : Below w3.heap.size w3 w4 := by rw [hw4]; exact ((Below.refl _ _).alloc (Nat.le_refl _) _).alloc (by simp) _
  replace HK := hid (HK.out.below hb4)
  replace HB := hid (HB.out.trans (hb4.mono HB.out.size))
  have b0 := Reads.of_own (own_newR w3 3 1 1 [.int .i64 30] rfl (by decide))
  have b1 := Reads.of_own (own_newR (w3.alloc (.cells #[.int .i64 30] 3)) 45 5 1 ([((⟨5, 10, 4, 50, [30]⟩, some ⟨w3.heap.size, 0, none⟩, 1) : EnA)].flatMap cellsN) rfl (by decide))
  simp only [World.size_alloc] at b1
  have HR := hid (Repl_c ⟨w.heap.size + 1 + 1 + 1, 0, none⟩ ⟨w3.heap.size + 1, 0, none⟩ 3 3 1 1 (wkL w.heap.size) [(⟨5, 10, 4, 50, [30]⟩, some ⟨w3.heap.size, 0, none⟩, 1)] w4 HK.out.ix (Reads.of_own HK.out.1) (by rw [hw4]; exact b1) (fun x hx => by
    obtain rfl := List.mem_singleton.1 hx
    exact ⟨⟨_, by rw [hw4]; exact b0.alloc _⟩, Nat.le_of_ble_eq_true rfl⟩) (by decide) (by decide) (by decide) (by decide) (by decide) (by simp [wkL]) wk_may wk_may2)
  have HW4 := hid hw4
  clear hb4 b0 b1 hw4
  go_wp2_with fail
  rw [← HW4.out]
  refine HR.out.mono ?_
  rintro e w5 ⟨C5, f5, rfl, hb5⟩
  replace HK := hid (HK.out.below hb5)
  replace HB := hid (HB.out.trans (hb5.mono HB.out.size))
  have HC := hid (Count_c _ 3 3 _ w5 HK.out.ix wk_may (by simp [wkL]))
  rw [wkL_fst, wk_cnt] at HC
  clear hb5 HR HW4
  go_wp2_with fail
  refine HC.out.mono ?_
  rintro e w6 ⟨rfl, hb6⟩
  replace HK := hid (HK.out.below hb6)
  replace HB := hid (HB.out.trans (hb6.mono HB.out.size))
  clear hb6 HC
  obtain ⟨w7, hw7⟩ : ∃ w7, w7 = w6.alloc (.cells #[.slice (some ⟨w.heap.size + 1 + 1 + 1, 0, none⟩) 3 3] 39) := ⟨_, rfl⟩
  have hb7 : Below w6.heap.size w6 w7 := by rw [hw7]; exact (Below.refl _ _).alloc (Nat.le_refl _) _
  replace HK := hid (HK.out.below hb7)
  replace HB := hid (HB.out.trans (hb7.mono HB.out.size))
  have b0 := Reads.of_own (own_newR w6 39 1 1 [.slice (some ⟨w.heap.size + 1 + 1 + 1, 0, none⟩) 3 3] rfl (by decide))
  have HP := hid ((Pages_c (some ⟨w6.heap.size, 0, none⟩) 1 1 [(wkL w.heap.size, some ⟨w.heap.size + 1 + 1 + 1, 0, none⟩, 3)] w7 ⟨⟨_, by rw [hw7]; exact b0⟩, fun x hx => by
    obtain rfl := List.mem_singleton.1 hx
    exact ⟨⟨_, Reads.of_own HK.out.1⟩, HK.out.ens, Nat.le_of_ble_eq_true rfl⟩, by decide⟩).mono (R' := fun e w' => ∃ (f9 : Nat) (C9 : Option Addr), e = .returned (.slice C9 4 f9) ∧ Hid (Reads w' 3 1 C9 4 ([20, 21, 24, 25].map (Value.int .i64))) ∧ Hid (Below w7.heap.size w7 w')) fun e w' h => by
    obtain ⟨k, f9, C9, h1, h2, h3, h4⟩ := h
    have hpg : allP [(wkL w.heap.size, some (⟨w.heap.size + 1 + 1 + 1, 0, none⟩ : Addr), 3)] = [20, 21, 25, 24] := rfl
    rw [hpg] at h1 h3
    rw [wk_pgs] at h3
    have hk : k = 4 := by have := h3.1; simpa using this.symm
    subst hk
    exact ⟨f9, C9, h2, hid (Reads.of_own h3), hid h4⟩)
  have HW7 := hid hw7
  clear hb7 b0 hw7
  go_wp2_with fail
  rw [← HW7.out]
  refine HP.out.mono ?_
  rintro e w8 ⟨f9, C9, rfl, HRP, HBP⟩
  replace HK := hid (HK.out.below HBP.out)
  replace HB := hid (HB.out.trans (HBP.out.mono HB.out.size))
  clear HP HW7 HBP
  obtain ⟨w9, hw9⟩ : ∃ w9, w9 = w8.alloc (.cells #[.int .i64 20, .int .i64 21, .int .i64 24, .int .i64 25] 3) := ⟨_, rfl⟩
  have hb9 : Below w8.heap.size w8 w9 := by rw [hw9]; exact (Below.refl _ _).alloc (Nat.le_refl _) _
  replace HK := hid (HK.out.below hb9)
  replace HB := hid (HB.out.trans (hb9.mono HB.out.size))
  have b0 := Reads.of_own (own_newR w8 3 1 4 [.int .i64 20, .int .i64 21, .int .i64 24, .int .i64 25] rfl (by decide))
  have HQ := hid (equal_n C9 (some ⟨w8.heap.size, 0, none⟩) 4 4 f9 4 [20, 21, 24, 25] [20, 21, 24, 25] w9 (HRP.out.below hb9) (by rw [hw9]; exact b0) (by decide))
  rw [decide_eq_true rfl] at HQ
  have HW9 := hid hw9
  clear hb9 b0 hw9
  go_wp2_with fail
  rw [← HW9.out]
  refine HQ.out.mono ?_
  rintro e w10 ⟨rfl, qq, rfl⟩
  replace HK := hid (HK.out.below (below_dn (Below.refl _ _) qq))
  replace HB := hid (below_dn HB.out qq)
  clear HQ HW9 HRP
  generalize w9.drewN qq = wa at *
  have d0 : wa.cell? ⟨w.heap.size + 1 + 1 + 1, 0, none⟩ = some (.int .i64 5) := HK.out.1.cellAt 0 (by decide)
  have d1 : wa.cell? ⟨w.heap.size + 1 + 1 + 1, 1, none⟩ = some (.int .i64 9) := HK.out.1.cellAt 1 (by decide)
  have d2 : wa.cell? ⟨w.heap.size + 1 + 1 + 1, 2, none⟩ = some (.int .i64 3) := HK.out.1.cellAt 2 (by decide)
  have d3 : wa.cell? ⟨w.heap.size + 1 + 1 + 1, 3, none⟩ = some (.slice (some ⟨w.heap.size, 0, none⟩) 1 1) := HK.out.1.cellAt 3 (by decide)
  have d4 : wa.cell? ⟨w.heap.size + 1 + 1 + 1, 4, none⟩ = some (.int .i64 40) := HK.out.1.cellAt 4 (by decide)
  have HN := hid (Reads.of_own (own_newR wa 45 5 1 ([((⟨5, 9, 3, 40, [20]⟩, some ⟨w.heap.size, 0, none⟩, 1) : EnA)].flatMap cellsN) rfl (by decide)))
  go_wp2_with (at_builtin; refine wpList_append_anyG _ (by rfl) (.tmp 68) (.tmp 72) 39 rfl w.heap.size 45 i0 (.agg #[.int .i64 0, .int .i64 0, .int .i64 0, .slice none 0 0, .int .i64 0]) 5 56 Try.underlying39 HI.out.1 HI.out.2.1 HI.out.2.2.1 HI.out.2.2.2 rfl (by decide) _ 3 _ rfl (HK.out.1.alloc _) (some ⟨wa.heap.size, 0, none⟩) 1 1 _ rfl HN.out (cellsNs_one _) (by decide) (by decide) (by have := HB.out.size; simp; omega) ?_; intro v8 w11 hown8 hg8; obtain ⟨C8, f8, hv8, _, _⟩ := own_form hown8; subst hv8)
  have HO8 := hid hown8
  have hb8 : Below w.heap.size w w11 := (HB.out.alloc HB.out.size (.cells #[.int .i64 5, .int .i64 9, .int .i64 3, .slice (some ⟨w.heap.size, 0, none⟩) 1 1, .int .i64 40] 45)).grown hg8 (by have := HB.out.size; simp; omega) (fun b hb => by have := HK.out.1.lt b hb; exact this.1)
  have hfr : ∀ x ∈ wkL w.heap.size, EnFr w11 x := fun x hx => by
    have h1 := (HK.out.2 x hx).below ((Below.refl _ _).alloc (Nat.le_refl _) (.cells #[.int .i64 5, .int .i64 9, .int .i64 3, .slice (some ⟨w.heap.size, 0, none⟩) 1 1, .int .i64 40] 45))
    refine ⟨h1.1.keep fun b hb => hg8.block b hb.lt (fun e => ?_), h1.2⟩
    have h2 : Typed _ (w.heap.size + 1 + 1 + 1) 45 := own_typedE (HK.out.1.alloc (.cells #[.int .i64 5, .int .i64 9, .int .i64 3, .slice (some ⟨w.heap.size, 0, none⟩) 1 1, .int .i64 40] 45))
    have h3 : b = w.heap.size + 1 + 1 + 1 := by injection e
    exact typed_neI hb h2 (by decide) h3
  have HCK := hid (ixCheck_c (c := f8) (l := wkL w.heap.size ++ [((⟨5, 9, 3, 40, [20]⟩, some ⟨w.heap.size, 0, none⟩, 1) : EnA)]) (by have h := Reads.of_own HO8.out; rw [← List.flatMap_append] at h; exact h) (fun x hx => by
    rcases List.mem_append.1 hx with hx | hx
    · exact ⟨⟨_, (hfr x hx).1⟩, Nat.le_trans (hfr x hx).2 (by decide)⟩
    · obtain rfl := List.mem_singleton.1 hx
      have := hfr (⟨5, 9, 3, 40, [20]⟩, some ⟨w.heap.size, 0, none⟩, 1) (by simp [wkL])
      exact ⟨⟨_, this.1⟩, Nat.le_of_ble_eq_true rfl⟩) (by decide) (Nat.le_of_ble_eq_true rfl))
  rw [List.map_append, wkL_fst] at HCK
  rw [show ixE (wkP ++ [((⟨5, 9, 3, 40, [20]⟩, some ⟨w.heap.size, 0, none⟩, 1) : EnA)].map Prod.fst) = 311 by unfold ixE; rw [show wkP ++ [((⟨5, 9, 3, 40, [20]⟩, some ⟨w.heap.size, 0, none⟩, 1) : EnA)].map Prod.fst = wkP ++ [⟨5, 9, 3, 40, [20]⟩] from rfl, wk_not]; rfl] at HCK
  have HB8 := hid hb8
  clear hown8 hg8 hb8 hfr d0 d1 d2 d3 d4
  refine HCK.out.mono ?_
  rintro e w12 ⟨rfl, hb12⟩
  have HBE := hid (HB8.out.trans (hb12.mono HB8.out.size))
  clear hb12 HCK HN HK
  go_wp2_with fail
  go_ret
  exact ⟨rfl, HBE.out⟩
end Go.Proofs.Ytgdnpmjmkcccoaa
namespace Go.Proofs.Ytgdnpmjmkcccoaa
open Go.RowKit Go.Shelf VB
open Go.Lib (hid)
set_option linter.unusedVariables false
set_option linter.unusedSimpArgs false
theorem two_newI (w : World) (t : TypeId) (u v : Value) : Reads (w.alloc (.cells #[u, v] t)) t 1 (some ⟨w.heap.size, 0, none⟩) 2 [u, v] := by
  have k := Blk.new w t #[u, v]
  refine ⟨rfl, fun _ => ⟨_, rfl, k.typed, ?_⟩⟩
  intro j y hy
  match j, hy with
  | 0, hy => obtain rfl : u = y := by simpa using hy
             exact k.two.1
  | 1, hy => obtain rfl : v = y := by simpa using hy
             exact k.two.2.1
theorem ownX_len (l : List En) : (ownX l).length ≤ 60 := by
  unfold ownX
  rw [List.length_map, List.length_take]
  omega
theorem fr_ens {w : World} {xs : List EnA} (h : ∀ x ∈ xs, EnFr w x) : EnsIn w xs := fun x hx => ⟨⟨_, (h x hx).1⟩, Nat.le_trans (h x hx).2 (by decide)⟩
theorem fr_pgs {w : World} : ∀ {xs : List EnA}, (∀ x ∈ xs, EnFr w x) → (pgsA xs).length ≤ xs.length * 300
  | [], _ => by simp [pgsA]
  | x :: xs, h => by
    have h1 := (h x List.mem_cons_self).2
    have h2 := fr_pgs (xs := xs) (fun y hy => h y (List.mem_cons_of_mem _ hy))
    unfold pgsA at h2 ⊢
    rw [List.flatMap_cons, List.length_append, List.length_cons]
    omega
/-- two rows of entries of the call's own -/
structure Two (w : World) (C : Option Addr) (k f : Nat) (xs : List EnA) : Prop where
  rd : Reads w 45 5 C k (xs.flatMap cellsN)
  fr : ∀ x ∈ xs, EnFr w x
  hk : xs.length = k
  h60 : k ≤ 60
theorem Two.below {w w' : World} {C : Option Addr} {k f : Nat} {xs : List EnA} (h : Two w C k f xs) (hb : Below w.heap.size w w') : Two w' C k f xs :=
  ⟨h.rd.below hb, fun x hx => (h.fr x hx).below hb, h.hk, h.h60⟩
theorem Two.of {l : List En} {w w' : World} {e : Ending} (h : RetOwn21 l w e w') : ∃ (xs : List EnA) (C : Option Addr) (k f : Nat), xs.map Prod.fst = ownX l ∧ e = .returned (.slice C k f) ∧ Two w' C k f xs ∧ Below w.heap.size w w' := by
  obtain ⟨xs, C, k, f, h1, h2, h3, h4, h5, h6⟩ := h
  exact ⟨xs, C, k, f, h1, h3, ⟨Reads.of_own h4, h5, h2, by have := ownX_len l; rw [← h1, List.length_map, h2] at this; exact this⟩, h6⟩
theorem Two.pg {w : World} {C D : Option Addr} {k q f g gx : Nat} {xs ys : List EnA} (h1 : Two w C k f xs) (h2 : Two w D q g ys) (hr : Reads w 39 1 (some ⟨gx, 0, none⟩) 2 [.slice C k f, .slice D q g]) :
    PgIn w (some ⟨gx, 0, none⟩) 2 2 [(xs, C, f), (ys, D, g)] := by
  refine ⟨⟨39, ?_⟩, fun x hx => ?_, by decide⟩
  · have e1 : [((xs, C, f) : Rw), (ys, D, g)].map cellW = [.slice C k f, .slice D q g] := by
      simp only [List.map_cons, List.map_nil, cellW, h1.hk, h2.hk]
    rw [e1]
    exact hr
  · simp only [List.mem_cons, List.not_mem_nil, or_false] at hx
    rcases hx with rfl | rfl
    · exact ⟨⟨_, by rw [h1.hk]; exact h1.rd⟩, fr_ens h1.fr, by rw [h1.hk]; have := h1.h60; omega⟩
    · exact ⟨⟨_, by rw [h2.hk]; exact h2.rd⟩, fr_ens h2.fr, by rw [h2.hk]; have := h2.h60; omega⟩
theorem pg_none (w : World) : PgIn w none 0 0 [] := ⟨⟨0, by simp, fun h => absurd h (by omega)⟩, fun x hx => absurd hx (by simp), by decide⟩
set_option maxRecDepth 100000 in
set_option maxHeartbeats 4000000 in
theorem ipages_core (A B : Option Addr) (n c m d : Nat) (l r : List EnA) (w : World) (hx : IxArg w A n c l) (hy : IxArg w B m d r) :
    Calls Try.prog 7 #[.slice A n c, .slice B m d] w fun e w' => e = .returned (.bool true) ∧ Below w.heap.size w w' := by
  have HX := hid hx
  have HY := hid hy
  clear hx hy
  go_enter Try.func7, Try.ntmps7
  go_wp2_with fail
  refine (wakes_21 _).mono ?_
  rintro e w1 ⟨rfl, hb1⟩
  have HB := hid hb1
  have HO1 := hid ((own_21 A n c l w1 (HX.out.below hb1)).mono fun e w' h => Two.of h)
  clear hb1
  go_wp2_with fail
  refine HO1.out.mono ?_
  rintro e w2 ⟨xs, C, k, f, hxs, rfl, ha, hb2⟩
  have HXS := hid hxs
  have HA := hid ha
  replace HB := hid (HB.out.trans (hb2.mono HB.out.size))
  have HO2 := hid ((own_21 B m d r w2 (HY.out.below HB.out)).mono fun e w' h => Two.of h)
  clear hxs ha hb2 HO1
  go_wp2_with fail
  refine HO2.out.mono ?_
  rintro e w3 ⟨ys, D, q, g, _, rfl, hb, hb3⟩
  replace HA := hid (HA.out.below hb3)
  have HD := hid hb
  replace HB := hid (HB.out.trans (hb3.mono HB.out.size))
  clear hb hb3 HO2
  obtain ⟨ps, hps⟩ : ∃ ps, ps = allP [((xs, C, f) : Rw), (ys, D, g)] := ⟨_, rfl⟩
  have hpl : ps.length ≤ 900000 := by
    rw [hps]
    have h1 := fr_pgs HA.out.fr
    have h2 := fr_pgs HD.out.fr
    have h3 := HA.out.hk
    have h4 := HD.out.hk
    have h5 := HA.out.h60
    have h6 := HD.out.h60
    simp only [allP, List.flatMap_cons, List.flatMap_nil, List.append_nil, List.length_append]
    omega
  obtain ⟨w4, hw4⟩ : ∃ w4, w4 = w3.alloc (.cells #[.slice C k f, .slice D q g] 39) := ⟨_, rfl⟩
  have hb4 : Below w3.heap.size w3 w4 := by rw [hw4]; exact (Below.refl _ _).alloc (Nat.le_refl _) _
  have h4 := two_newI w3 39 (.slice C k f) (.slice D q g)
  rw [← hw4] at h4
  replace HA := hid (HA.out.below hb4)
  replace HD := hid (HD.out.below hb4)
  replace HB := hid (HB.out.trans (hb4.mono HB.out.size))
  have HP := hid ((Pages_c _ 2 2 _ w4 (Two.pg HA.out HD.out h4)).mono (R' := fun e w' => ∃ (kz fz : Nat) (Cz : Option Addr), e = .returned (.slice Cz kz fz) ∧ Hid (Reads w' 3 1 Cz kz ((allPut ps).map (Value.int .i64))) ∧ Hid (Below w4.heap.size w4 w')) fun e w' h => by
    obtain ⟨kz, fz, Cz, _, g2, g3, g4⟩ := h
    rw [← hps, sort_put] at g3
    exact ⟨kz, fz, Cz, g2, hid (Reads.of_own g3), hid g4⟩)
  have HPS := hid hps
  have HPL := hid hpl
  have HW4 := hid hw4
  clear h4 hb4 hw4 hps hpl
  go_wp2_with fail
  rw [← HW4.out]
  refine HP.out.mono ?_
  rintro e w5 ⟨kz, fz, Cz, rfl, HR5, HB5⟩
  replace HA := hid (HA.out.below HB5.out)
  replace HD := hid (HD.out.below HB5.out)
  replace HB := hid (HB.out.trans (HB5.out.mono HB.out.size))
  clear HB5 HP HW4
  obtain ⟨w6, hw6⟩ : ∃ w6, w6 = w5.alloc (.cells #[.slice C k f, .slice D q g] 39) := ⟨_, rfl⟩
  have hb6 : Below w5.heap.size w5 w6 := by rw [hw6]; exact (Below.refl _ _).alloc (Nat.le_refl _) _
  have h6 := two_newI w5 39 (.slice C k f) (.slice D q g)
  rw [← hw6] at h6
  replace HA := hid (HA.out.below hb6)
  replace HD := hid (HD.out.below hb6)
  replace HR5 := hid (HR5.out.below hb6)
  replace HB := hid (HB.out.trans (hb6.mono HB.out.size))
  have HP := hid ((RPages_c _ 2 2 _ w6 (Two.pg HA.out HD.out h6) (by rw [← HPS.out]; exact HPL.out)).mono (R' := fun e w' => ∃ (ky fy : Nat) (Cy : Option Addr), e = .returned (.slice Cy ky fy) ∧ Hid (Reads w' 3 1 Cy ky ((allPut ps).map (Value.int .i64))) ∧ Hid (Below w6.heap.size w6 w')) fun e w' h => by
    obtain ⟨ky, fy, Cy, _, g2, g3, g4⟩ := h
    rw [← HPS.out] at g3
    exact ⟨ky, fy, Cy, g2, hid (Reads.of_own g3), hid g4⟩)
  have HW6 := hid hw6
  clear h6 hb6 hw6
  go_wp2_with fail
  rw [← HW6.out]
  refine HP.out.mono ?_
  rintro e w7 ⟨ky, fy, Cy, rfl, HR7, HB7⟩
  replace HA := hid (HA.out.below HB7.out)
  replace HR5 := hid (HR5.out.below HB7.out)
  replace HB := hid (HB.out.trans (HB7.out.mono HB.out.size))
  have hkz : kz ≤ 100000000 := by
    have h1 := HR5.out.1
    have h2 := foldl_len ps []
    have h3 := HPL.out
    unfold allPut at h1
    simp at h1 h2
    omega
  have HQ := hid (equal_n Cz Cy kz ky fz fy (allPut ps) (allPut ps) w7 HR5.out HR7.out hkz)
  rw [decide_eq_true rfl] at HQ
  clear HB7 HP HW6 hkz HD
  go_wp2_with fail
  refine HQ.out.mono ?_
  rintro e w8 ⟨rfl, qq, rfl⟩
  replace HA := hid (HA.out.below (below_dn (Below.refl _ _) qq))
  replace HB := hid (below_dn HB.out qq)
  clear HQ HR5 HR7
  generalize w7.drewN qq = w8 at *
  have HP0 := hid ((Pages_c none 0 0 [] w8 (pg_none w8)).mono (R' := fun e w' => ∃ (f0 : Nat) (C0 : Option Addr), e = .returned (.slice C0 0 f0) ∧ Hid (Below w8.heap.size w8 w')) fun e w' h => by
    obtain ⟨k0, f0, C0, g1, g2, _, g4⟩ := h
    rw [show k0 = 0 from g1] at g2
    exact ⟨f0, C0, g2, hid g4⟩)
  go_wp2_with fail
  refine HP0.out.mono ?_
  rintro e w9 ⟨f0, C0, rfl, HB9⟩
  replace HA := hid (HA.out.below HB9.out)
  replace HB := hid (HB.out.trans (HB9.out.mono HB.out.size))
  have HO3 := hid ((own_21 A n c l w9 (HX.out.below HB.out)).mono fun e w' h => Two.of h)
  clear HB9 HP0
  go_wp2_with fail
  refine HO3.out.mono ?_
  rintro e wa ⟨zs, E, kk, ff, hzs, rfl, hz, hba⟩
  replace HA := hid (HA.out.below hba)
  replace HB := hid (HB.out.trans (hba.mono HB.out.size))
  have HSM := hid (ixSame_c C E k kk f ff xs zs wa HA.out.rd hz.rd (fr_ens HA.out.fr) (fr_ens hz.fr) (Nat.le_trans HA.out.h60 (by decide)))
  rw [HXS.out, hzs, decide_eq_true rfl] at HSM
  clear hz hzs hba HO3
  go_wp2_with fail
  refine HSM.out.mono ?_
  rintro e wb ⟨rfl, hbb⟩
  have HBF := hid (HB.out.trans (hbb.mono HB.out.size))
  clear hbb HSM
  go_wp2_with fail
  go_ret
  exact ⟨rfl, HBF.out⟩
end Go.Proofs.Ytgdnpmjmkcccoaa
namespace Go.Proofs.Ytgdnpmjmkcccoaa
open Go.RowKit Go.Shelf VB
open Go.Lib (hid)
theorem open_ix {H : Type} {enc : TypeId × Value → H} {w : World} {base : Nat} {held : Bool} {fuel : Nat} {v : Value} {x : DataW H × List MemPlace} (h : DataW.trod enc Try.prog w base (fun _ => true) held fuel 39 [v] = some x) :
    ∃ (A : Option Addr) (n c : Nat) (l : List EnA), v = .slice A n c ∧ IxArg w A n c l := by
  obtain ⟨A, n, c, l, h1, h2, h3, h4, h5, h6⟩ := open_ens h
  exact ⟨A, n, c, l, h1, h3, h4, h5, fun e he => ⟨(h6 e he).1, (h6 e he).2.1⟩⟩
theorem ipages_in (A : Option Addr) (n c : Nat) (l : List EnA) (B : Option Addr) (m d : Nat) (r : List EnA) (w : World) (w0 : IxArg w A n c l) (w1 : IxArg w B m d r) :
    Calls Try.prog 7 #[.slice A n c, .slice B m d] w fun e w' => e = .returned (.bool true) ∧ Below w.heap.size w w' :=
  ipages_core A B n c m d l r w w0 w1
end Go.Proofs.Ytgdnpmjmkcccoaa
