/- A region that draws its order, where what the loads read holds until one operation (the first store) has come. Manifest laws: own of law22 (printed by gen_own.py). The arguments of the Manifest laws opened (printed by gen_marg.py). Manifest laws: what Encode hands back; bytes; prefixes. Plain laws: the pages that come for the first time, sorted, are what putting them one by one gives. Index: the pages of rows: what tells them. Index: Pages. Manifest: plain laws: with a row less a manifest may be, too; with one twice, or the other way round, it may not. slices.Grow of nil, slices.Concat at api.Row. slices.Reverse at rows of a manifest. ManifestPages: the walk. ManifestPages: the walk, from a manifest and a number that came in. -/
import Derived.Test.YtgdnpmjmkcccoaaQManT
import Derived.Test.YtgdnpmjmkcccoaaPost
import Derived.Deep.SlicePairs
import Derived.Lib.SmallJoins
import Derived.ChangeArms
import Derived.OpenShut
import Derived.Test.YtgdnpmjmkcccoaaNum
import Derived.Test.YtgdnpmjmkcccoaaManC
import Derived.Test.YtgdnpmjmkcccoaaShA
import Derived.Sort.OwnSortedInts
import Derived.Test.YtgdnpmjmkcccoaaManF
import Derived.Test.YtgdnpmjmkcccoaaManI
import Derived.Laws.Cover1
import Derived.Laws.Bits64
namespace Go.Proofs.Ytgdnpmjmkcccoaa
section
variable {P : Program} {ops : Array Oper} {Q : Exit → Act → World → Prop} {S : World → Prop} {t : Nat}
/-- whatever order comes: S holds as long as number t has not come -/
def AnyTill (P : Program) (ops : Array Oper) (Q : Exit → Act → World → Prop) (S : World → Prop) (t : Nat) : Nat → Array Bool → Act → World → Prop
  | 0, l, a, w => Region.ready .any ops l = [] ∧ Q .normal a w
  | k + 1, l, a, w => (Region.ready .any ops l = [] → Q .normal a w) ∧
    ∀ j ∈ Region.ready .any ops l, wpOp P ops Q j (fun a' w' => ((l.setIfInBounds j true).getD t true = false → S w') ∧ AnyTill P ops Q S t k (l.setIfInBounds j true) a' w') a w
theorem AnyTill.any : ∀ (k : Nat) (l : Array Bool) (a : Act) (w : World), AnyTill P ops Q S t k l a w → wpAny P .any ops Q k l a w
  | 0, _, _, _, h => h
  | k + 1, _, _, _, h => ⟨h.1, fun j hj => wpOp_mono (fun _ _ h2 => AnyTill.any k _ _ _ h2.2) (h.2 j hj)⟩
theorem AnyTill.begin {id : Nat} {a : Act} {w : World} (hm : P.follows .mixedOrders = true) (hS : S w.drew) (h : S w.drew → AnyTill P ops Q S t ops.size (Array.replicate ops.size false) a w.drew) : (Code.region id ops true).wp P Q a w :=
  wp_region_any hm (AnyTill.any _ _ _ _ (h hS))
/-- t waits for i -/
def waitsB (ops : Array Oper) (t i : Nat) : Bool := ((ops[t]?).map fun o => o.after.any fun e => Region.binds .any e && e.on == i).getD false
theorem waits_not {i j : Nat} {oj : Oper} (hw : waitsB ops t i = true) (hj : ops[j]? = some oj) (hn : ∀ e ∈ oj.after, Region.binds .any e = true → e.on ≠ i) : j ≠ t := by
  rintro rfl
  unfold waitsB at hw
  rw [hj] at hw
  simp only [Option.map_some, Option.getD_some, Array.any_eq_true] at hw
  obtain ⟨n, hn1, hn2⟩ := hw
  simp only [Bool.and_eq_true, beq_iff_eq] at hn2
  exact hn _ (Array.getElem_mem hn1) hn2.1 hn2.2
theorem AnyTill.first {i : Nat} {oi : Oper} {v : Value} (hi : ops[i]? = some oi) (hsel : ∀ (j : Nat) (o : Oper) cs b, ops[j]? = some o → o.op ≠ .select cs b) (hw : waitsB ops t i = true) (hit : i ≠ t)
    (hQ : ∀ c a w, Q (.panic c) (a.put oi.dst v) w → Q (.panic c) a w) : ∀ (k : Nat) (l : Array Bool) (a : Act) (w : World), l.getD t true = false →
      (∀ j oj, ops[j]? = some oj → j ≠ i → l.getD j true = false → (∀ e ∈ oj.after, Region.binds .any e = true → e.on ≠ i) → oi.apart ops oj = true) →
      i ∈ Region.ready .any ops l → YieldsIf P ops S oi v a → S w → AnyTill P ops Q S t k (l.setIfInBounds i true) (a.put oi.dst v) w → AnyTill P ops Q S t (k + 1) l a w := by
  intro k
  induction k with
  | zero =>
    intro l a w hlt _ hr hy hS H
    refine ⟨fun h => (by rw [h] at hr; cases hr), fun j hj => ?_⟩
    by_cases hji : j = i
    · subst hji
      exact hy.wpOp hi hS ⟨fun _ => hS, H⟩
    · have h := ready_mono hj hji
      rw [H.1] at h
      cases h
  | succ k ih =>
    intro l a w hlt hfree hr hy hS H
    refine ⟨fun h => (by rw [h] at hr; cases hr), fun j hj => ?_⟩
    by_cases hji : j = i
    · subst hji
      exact hy.wpOp hi hS ⟨fun _ => hS, H⟩
    · obtain ⟨hju, oj, hoj, hall⟩ := mem_ready.1 hj
      have hnot : ∀ e ∈ oj.after, Region.binds .any e = true → e.on ≠ i := by
        intro e he hb heq
        have h1 := hall e he hb
        have h0 := (mem_ready.1 hr).1
        rw [heq] at h1
        rcases Nat.lt_or_ge i l.size with h' | h'
        · simp [h'] at h0 h1; rw [h0] at h1; cases h1
        · simp [Array.getElem?_eq_none h'] at h1
      have hjt : j ≠ t := waits_not hw hoj hnot
      have h2 := wpOp_putIf hoj (hfree j oj hoj hji hju hnot) (fun cs b => hsel i oi cs b hi) (fun cs b => hsel j oj cs b hoj) hQ hy (H.2 j (ready_mono hj hji))
      have hlt2 : (l.setIfInBounds j true).getD t true = false := by rw [getD_set_ne true hjt]; exact hlt
      have hlt3 : ((l.setIfInBounds i true).setIfInBounds j true).getD t true = false := by rw [getD_set_ne true hjt, getD_set_ne true hit]; exact hlt
      refine wpOp_mono (fun a' w' h3 => ⟨fun _ => h3.2.1 hlt3, ih (l.setIfInBounds j true) a' w' hlt2 ?_ (ready_mono hr (Ne.symm hji)) h3.1 (h3.2.1 hlt3) (by rw [Array.setIfInBounds_comm _ _ hji]; exact h3.2.2)⟩) h2
      intro m om hm hmi hun hno
      refine hfree m om hm hmi ?_ hno
      by_cases hjm : j = m
      · subst hjm; exact hju
      · rw [getD_set_ne true hjm] at hun; exact hun
theorem AnyTill.take {i : Nat} {oi : Oper} {v : Value} {k : Nat} {l : Array Bool} {a : Act} {w : World} (hi : ops[i]? = some oi) (hs : Region.noSelect ops = true) (hf : Region.free .any ops l i = true) (hr : (Region.ready .any ops l).contains i = true)
    (hw : (waitsB ops t i && (i != t)) = true) (hlt : l.getD t true = false) (hQ : ∀ c a w, Q (.panic c) (a.put oi.dst v) w → Q (.panic c) a w) (hy : YieldsIf P ops S oi v a) (hS : S w)
    (h : AnyTill P ops Q S t k (l.setIfInBounds i true) (a.put oi.dst v) w) : AnyTill P ops Q S t (k + 1) l a w := by
  simp only [Bool.and_eq_true, bne_iff_ne] at hw
  exact AnyTill.first hi (Region.noSelect_spec hs) hw.1 hw.2 hQ k l a w hlt (Region.free_spec hi hf) (by simpa using hr) hy hS h
/-- what yields in whatever world need not be waited for -/
theorem AnyTill.firstP {i : Nat} {oi : Oper} {v : Value} (hi : ops[i]? = some oi) (hsel : ∀ (j : Nat) (o : Oper) cs b, ops[j]? = some o → o.op ≠ .select cs b) (hit : i ≠ t)
    (hQ : ∀ c a w, Q (.panic c) (a.put oi.dst v) w → Q (.panic c) a w) : ∀ (k : Nat) (l : Array Bool) (a : Act) (w : World),
      (∀ j oj, ops[j]? = some oj → j ≠ i → l.getD j true = false → (∀ e ∈ oj.after, Region.binds .any e = true → e.on ≠ i) → oi.apart ops oj = true) →
      i ∈ Region.ready .any ops l → YieldsIf P ops (fun _ => True) oi v a → (l.getD t true = false → S w) → AnyTill P ops Q S t k (l.setIfInBounds i true) (a.put oi.dst v) w → AnyTill P ops Q S t (k + 1) l a w := by
  intro k
  induction k with
  | zero =>
    intro l a w hfree hr hy hS H
    refine ⟨fun h => (by rw [h] at hr; cases hr), fun j hj => ?_⟩
    by_cases hji : j = i
    · subst hji
      exact hy.wpOp hi trivial ⟨fun h => hS (by rw [getD_set_ne true hit] at h; exact h), H⟩
    · have h := ready_mono hj hji
      rw [H.1] at h
      cases h
  | succ k ih =>
    intro l a w hfree hr hy hS H
    refine ⟨fun h => (by rw [h] at hr; cases hr), fun j hj => ?_⟩
    by_cases hji : j = i
    · subst hji
      exact hy.wpOp hi trivial ⟨fun h => hS (by rw [getD_set_ne true hit] at h; exact h), H⟩
    · obtain ⟨hju, oj, hoj, hall⟩ := mem_ready.1 hj
      have hnot : ∀ e ∈ oj.after, Region.binds .any e = true → e.on ≠ i := by
        intro e he hb heq
        have h1 := hall e he hb
        have h0 := (mem_ready.1 hr).1
        rw [heq] at h1
        rcases Nat.lt_or_ge i l.size with h' | h'
        · simp [h'] at h0 h1; rw [h0] at h1; cases h1
        · simp [Array.getElem?_eq_none h'] at h1
      have h2 := wpOp_putIf hoj (hfree j oj hoj hji hju hnot) (fun cs b => hsel i oi cs b hi) (fun cs b => hsel j oj cs b hoj) hQ hy (H.2 j (ready_mono hj hji))
      have hS2 : ∀ w' : World, (((l.setIfInBounds i true).setIfInBounds j true).getD t true = false → S w') → ((l.setIfInBounds j true).getD t true = false → S w') := fun w' h3 h => h3 (by rw [← Array.setIfInBounds_comm _ _ hji, getD_set_ne true hit]; exact h)
      refine wpOp_mono (fun a' w' h3 => ⟨hS2 w' h3.2.1, ih (l.setIfInBounds j true) a' w' ?_ (ready_mono hr (Ne.symm hji)) h3.1 (hS2 w' h3.2.1) (by rw [Array.setIfInBounds_comm _ _ hji]; exact h3.2.2)⟩) h2
      intro m om hm hmi hun hno
      refine hfree m om hm hmi ?_ hno
      by_cases hjm : j = m
      · subst hjm; exact hju
      · rw [getD_set_ne true hjm] at hun; exact hun
theorem AnyTill.takeP {i : Nat} {oi : Oper} {v : Value} {k : Nat} {l : Array Bool} {a : Act} {w : World} (hi : ops[i]? = some oi) (hs : Region.noSelect ops = true) (hf : Region.free .any ops l i = true) (hr : (Region.ready .any ops l).contains i = true)
    (hw : (i != t) = true) (hQ : ∀ c a w, Q (.panic c) (a.put oi.dst v) w → Q (.panic c) a w) (hy : YieldsIf P ops (fun _ => True) oi v a) (hS : l.getD t true = false → S w)
    (h : AnyTill P ops Q S t k (l.setIfInBounds i true) (a.put oi.dst v) w) : AnyTill P ops Q S t (k + 1) l a w := by
  simp only [bne_iff_ne] at hw
  exact AnyTill.firstP hi (Region.noSelect_spec hs) hw hQ k l a w (Region.free_spec hi hf) (by simpa using hr) hy hS h
theorem AnyTill.one {j : Nat} {o : Oper} {k : Nat} {l : Array Bool} {a : Act} {w : World} (hr : Region.ready .any ops l = [j]) (ho : ops[j]? = some o)
    (h : ∀ K' : Act → World → Prop, Shut (∀ a w, ((l.setIfInBounds j true).getD t true = false → S w) → AnyTill P ops Q S t k (l.setIfInBounds j true) a w → K' a w) → if Region.wanted o (yielded ops a.tmps) = true then Oper.wp P o a w K' Q else K' (a.put o.dst undef) w) : AnyTill P ops Q S t (k + 1) l a w := by
  refine ⟨fun h => (by rw [h] at hr; cases hr), fun j' hj => ?_⟩
  rw [hr] at hj
  obtain rfl := List.mem_singleton.1 hj
  exact wpOp_step ho fun K' hK => h K' fun a w h1 h2 => hK a w ⟨h1, h2⟩
theorem AnyTill.done {l : Array Bool} {a : Act} {w : World} (hr : Region.ready .any ops l = []) (h : Q .normal a w) : ∀ k, AnyTill P ops Q S t k l a w
  | 0 => ⟨hr, h⟩
  | _ + 1 => ⟨fun _ => h, by rw [hr]; simp⟩
end
end Go.Proofs.Ytgdnpmjmkcccoaa
namespace Go.Proofs.Ytgdnpmjmkcccoaa
open Go.RowKit Go.Shelf VB
open Go.Lib (hid)
set_option linter.unusedVariables false
set_option linter.unusedSimpArgs false
theorem cellsNs_one (l : List EnA) : ∀ v ∈ l.flatMap cellsN, v.oneCell' = true := by
  intro v hv
  obtain ⟨q, _, hq⟩ := List.mem_flatMap.1 hv
  exact cellsN_one q v hq
theorem ints_one (l : List Int) : ∀ v ∈ l.map (Value.int .i64), v.oneCell' = true := by
  intro v hv
  obtain ⟨q, _, rfl⟩ := List.mem_map.1 hv
  rfl
set_option maxHeartbeats 400000 in
theorem clone_e {e' : TypeId} (A : Option Addr) (n c : Nat) (l : List EnA) (w : World) (hb : Reads w e' 5 A n (l.flatMap cellsN)) (hn : n ≤ 100000000) :
    Calls Try.prog 36 #[.slice A n c] w fun e w' => ∃ C f, e = .returned (.slice C n f) ∧ w'.ownsRow w.heap.size 45 5 (.slice C n f) n (l.flatMap cellsN) ∧ Below w.heap.size w w' := by
  have q22 : ∀ (w : World) (a : Option Addr) (n c n' c' : Nat), (binOp .eql 39 (.slice a n c) (.slice none n' c')).run Try.prog w = .ok (.bool a.isNone) w := fun w a n c n' c' => Lib.run_eql_slice_nil w _ _ a n c n' c' Try.underlying39
  have HB := Lib.hid hb
  cases A with
  | none =>
    obtain ⟨rfl, h0⟩ := nil_readsS hb
    rw [h0]
    clear hb h0
    go_enter Try.func36, Try.ntmps36
    go_wp2
    go_ret
    exact ⟨none, 0, rfl, World.ownsRow_nil _ _ _ _, Below.refl _ _⟩
  | some ad =>
    clear hb
    obtain ⟨i0, hi0, hz0, hz1, hz2⟩ := info_parts3 entry_info
    go_enter Try.func36, Try.ntmps36
    go_wp2_with (at_builtin; refine wpList_append_anyS _ rfl (.tmp 5) (.tmp 6) 39 rfl w.heap.size 45 i0 (.agg zEn) 5 56 Try.underlying39 hi0 hz0 hz1 hz2 rfl (by decide) _ 0 [] rfl (own_emptyS w 45 5) e' ad n c (l.flatMap cellsN) rfl (HB.out.alloc _) (cellsNs_one l) (by simp only [maxLen]; omega) (by omega) (by simp) ?_; intro v' w' hown' hg')
    rw [Nat.zero_add] at hown'
    obtain ⟨C, f, rfl, _, _⟩ := own_form hown'
    have hB : Below w.heap.size w w' := ((Below.refl _ w).alloc (Nat.le_refl _) _).grown hg' (by simp) (by intro k hk; cases hk; exact Nat.le_refl _)
    go_wp2
    go_ret
    exact ⟨C, f, rfl, by simpa using hown', hB⟩
set_option maxHeartbeats 400000 in
theorem clone_n {e' : TypeId} (A : Option Addr) (n c : Nat) (l : List Int) (w : World) (hb : Reads w e' 1 A n (l.map (Value.int .i64))) (hn : n ≤ 100000000) :
    Calls Try.prog 38 #[.slice A n c] w fun e w' => ∃ C f, e = .returned (.slice C n f) ∧ w'.ownsRow w.heap.size 3 1 (.slice C n f) n (l.map (Value.int .i64)) ∧ Below w.heap.size w w' := by
  have q22 : ∀ (w : World) (a : Option Addr) (n c n' c' : Nat), (binOp .eql 43 (.slice a n c) (.slice none n' c')).run Try.prog w = .ok (.bool a.isNone) w := fun w a n c n' c' => Lib.run_eql_slice_nil w _ _ a n c n' c' Try.underlying43
  have HB := Lib.hid hb
  cases A with
  | none =>
    obtain ⟨rfl, h0⟩ := nil_readsS hb
    rw [h0]
    clear hb h0
    go_enter Try.func38, Try.ntmps38
    go_wp2
    go_ret
    exact ⟨none, 0, rfl, World.ownsRow_nil _ _ _ _, Below.refl _ _⟩
  | some ad =>
    clear hb
    obtain ⟨i0, hi0, hz0, hz1, hz2⟩ := info_parts3 int_info2
    go_enter Try.func38, Try.ntmps38
    go_wp2_with (at_builtin; refine wpList_append_anyS _ rfl (.tmp 5) (.tmp 6) 43 rfl w.heap.size 3 i0 (.int .i64 0) 1 8 Try.underlying43 hi0 hz0 hz1 hz2 rfl (by decide) _ 0 [] rfl (own_emptyS w 3 1) e' ad n c (l.map (Value.int .i64)) rfl (HB.out.alloc _) (ints_one l) (by simp only [maxLen]; omega) (by omega) (by simp) ?_; intro v' w' hown' hg')
    rw [Nat.zero_add] at hown'
    obtain ⟨C, f, rfl, _, _⟩ := own_form hown'
    have hB : Below w.heap.size w w' := ((Below.refl _ w).alloc (Nat.le_refl _) _).grown hg' (by simp) (by intro k hk; cases hk; exact Nat.le_refl _)
    go_wp2
    go_ret
    exact ⟨C, f, rfl, by simpa using hown', hB⟩
theorem take_cellsN (l : List EnA) (k : Nat) : (l.flatMap cellsN).take (k * 5) = (l.take k).flatMap cellsN := by
  induction l generalizing k with
  | nil => simp
  | cons x l ih =>
    cases k with
    | zero => simp
    | succ k =>
      rw [List.take_succ_cons, List.flatMap_cons, List.flatMap_cons, ← ih k, show (k + 1) * 5 = (cellsN x).length + k * 5 by simp only [cellsN, List.length_cons, List.length_nil]; omega, List.take_length_add_append]
theorem own_put {w : World} {base n f size : Nat} {e : TypeId} {ad : Addr} {xs : List Value} (h : w.ownsRow base e size (.slice (some ad) n f) n xs) {k r : Nat} (hk : k * size + r < n * size) (u : Value) :
    (w.setCell ⟨(ad.add (k * size)).block, (ad.add (k * size)).off + r, none⟩ u).ownsRow base e size (.slice (some ad) n f) n (xs.set (k * size + r) u) ∧ w.frozen? ⟨(ad.add (k * size)).block, (ad.add (k * size)).off + r, none⟩ = false ∧ ad.block < w.heap.size ∧ base ≤ ad.block ∧ (ad.add (k * size)).block = ad.block ∧ (∀ v, xs[k * size + r]? = some v → w.cell? ⟨(ad.add (k * size)).block, (ad.add (k * size)).off + r, none⟩ = some v) := by
  obtain ⟨h1, h2⟩ := h
  rcases h2 with ⟨h2, _⟩ | ⟨g, cap, cur, h2, hb, hg, hn, hc, hs, ht⟩
  · cases h2
  · injection h2 with h3 h4 h5
    injection h3 with h3
    subst h3
    have ha : (⟨g, 0, none⟩ : Addr).add (k * size) = ⟨g, k * size, none⟩ := by rw [Addr.add_lit]; simp
    rw [ha]
    have hB : Blk w g e cur := hg
    refine ⟨⟨by rw [List.length_set]; exact h1, .inr ⟨g, cap, cur.setIfInBounds (k * size + r) u, by rw [h5], hb, hB.set_ _ u, hn, hc, by simpa using hs, ?_⟩⟩, hB.frozen _, hB.lt, hb, rfl, fun v hv => ?_⟩
    · rw [Array.toList_setIfInBounds, ← ht, List.take_set]
    · rw [hB.cell, ← Array.getElem?_toList]
      rw [← ht, List.getElem?_take_of_lt hk] at hv
      exact hv
theorem get_here (dn rest : List EnA) (e : EnA) : ((dn ++ e :: rest).flatMap cellsN)[dn.length * 5 + 3]? = some (.slice e.2.1 e.1.ps.length e.2.2) := by
  have hl : (dn.flatMap cellsN).length = dn.length * 5 := recs_len cellsN_len dn
  rw [List.flatMap_append, List.flatMap_cons, List.getElem?_append_right (by rw [hl]; omega), hl, show dn.length * 5 + 3 - dn.length * 5 = 3 by omega, List.getElem?_append_left (by rw [cellsN_len]; omega)]
  rfl
theorem set_here (dn rest : List EnA) (e e' : EnA) (u : Value) (h : (cellsN e).set 3 u = cellsN e') : ((dn ++ e :: rest).flatMap cellsN).set (dn.length * 5 + 3) u = ((dn ++ [e']) ++ rest).flatMap cellsN := by
  rw [List.flatMap_append, List.flatMap_cons, List.flatMap_append, List.flatMap_append, List.flatMap_singleton, ← h]
  have hl : (dn.flatMap cellsN).length = dn.length * 5 := recs_len cellsN_len dn
  rw [List.set_append_right _ _ (by rw [hl]; omega), hl, show dn.length * 5 + 3 - dn.length * 5 = 3 by omega, List.set_append_left _ _ (by rw [cellsN_len]; omega), List.append_assoc]
theorem RoFr.set {w : World} {x : RoA} (h : RoFr w x) {g i : Nat} {t : TypeId} {cs : Array Value} (k : Blk w g t cs) (ht : t ≠ 45 ∧ t ≠ 3 ∧ t ≠ 47) (u : Value) : RoFr (w.setCell ⟨g, i, none⟩ u) x := by
  refine h.keep fun b t' hb ht' => Below.heap_setCell _ _ _ b ?_
  rintro rfl
  obtain ⟨c1, r1, h1⟩ := hb
  unfold Blk at k
  rw [k] at h1
  injection h1 with h1
  injection h1 with _ h3
  subst h3
  rcases ht' with h | h | h
  · exact ht.1 h
  · exact ht.2.1 h
  · exact ht.2.2 h
/-- a manifest that came in -/
structure RoArg (w : World) (x : RoA) : Prop where
  en : ∃ e, Reads w e 5 x.ea x.en.length (x.en.flatMap cellsN)
  enc : x.en.length ≤ x.ec ∧ x.ec ≤ maxLen
  ens : ∀ e ∈ x.en, (∃ t, Reads w t 1 e.2.1 e.1.ps.length (e.1.ps.map (Value.int .i64))) ∧ (e.1.ps.length ≤ e.2.2 ∧ e.2.2 ≤ maxLen) ∧ e.1.fs ≤ 9223372036854775807
  op : ∃ e, Reads w e 2 x.oa x.op.length (x.op.flatMap cellsP)
  opc : x.op.length ≤ x.oc ∧ x.oc ≤ maxLen
structure MArg (w : World) (A : Option Addr) (n c : Nat) (l : List RoA) : Prop where
  rows : ∃ e, Reads w e 7 A n (l.flatMap cellsR)
  each : ∀ x ∈ l, RoArg w x
  hn : n ≤ c
  hc : c ≤ maxLen
theorem RoArg.below {w w' : World} {x : RoA} (h : RoArg w x) (hb : Below w.heap.size w w') : RoArg w' x :=
  ⟨h.en.elim fun e k => ⟨e, k.below hb⟩, h.enc, fun e he => ⟨(h.ens e he).1.elim fun t k => ⟨t, k.below hb⟩, (h.ens e he).2⟩, h.op.elim fun e k => ⟨e, k.below hb⟩, h.opc⟩
def ownEn (e : En) : En := ⟨e.fs, e.ls, e.ct, e.by_, e.ps.take 40⟩
def ownRo (x : Ro) : Ro := ⟨x.nm.extract 0 (min x.nm.size 20), x.ep, x.fl, x.la, x.sc, (x.en.take 20).map ownEn, x.op.take 40⟩
def ownL (l : List Ro) (k : Nat) : List Ro := (l.take k).map ownRo
def RetOwn22 (l : List Ro) (w : World) (d : Ending) (w' : World) : Prop := ∃ (ns : List RoA) (C : Option Addr) (f : Nat), ns.map RoA.d = ownL l 9 ∧ d = .returned (.agg #[.slice C ns.length f]) ∧ w'.ownsRow w.heap.size 42 7 (.slice C ns.length f) ns.length (ns.flatMap cellsR) ∧ (∀ x ∈ ns, RoFr w' x) ∧ Below w.heap.size w w'
theorem grown_on {a w w' : World} {row : Option Nat} (h : a.grownBy w row) (hb : Below w.heap.size w w') : a.grownBy w' row :=
  ⟨hb.os.trans h.os, hb.tape.trans h.tape, hb.output.trans h.output, Nat.le_trans h.size hb.size, fun k hk hn => (hb.block k (Nat.lt_of_lt_of_le hk h.size)).trans (h.block k hk hn)⟩
theorem grown_set {a w : World} {row : Option Nat} (h : a.grownBy w row) {p : Addr} (hp : row = some p.block) (u : Value) : a.grownBy (w.setCell p u) row :=
  ⟨h.os, h.tape, h.output, by simpa using h.size, fun k hk hn => (Below.heap_setCell w p u k (fun e => hn (by rw [e, hp]))).trans (h.block k hk hn)⟩
theorem own_typedE {w : World} {base n f size : Nat} {e : TypeId} {ad : Addr} {xs : List Value} (h : w.ownsRow base e size (.slice (some ad) n f) n xs) : Typed w ad.block e := by
  obtain ⟨_, h2⟩ := h
  rcases h2 with ⟨h2, _⟩ | ⟨g, cap, cur, h2, hb, hg, _⟩
  · cases h2
  · injection h2 with h3 _ _
    injection h3 with h3
    subst h3
    exact ⟨_, _, hg⟩
theorem take_min' {α : Type} (l : List α) (k : Nat) : l.take (min l.length k) = l.take k := by
  by_cases h : l.length ≤ k
  · rw [Nat.min_eq_left h, List.take_of_length_le (Nat.le_refl _), List.take_of_length_le h]
  · rw [Nat.min_eq_right (by omega)]
theorem own_ne3 {w : World} {b1 b2 e t s1 s2 n1 n2 : Nat} {v1 v2 : Value} {xs ys : List Value} (h1 : w.ownsRow b1 e s1 v1 n1 xs) (h2 : w.ownsRow b2 t s2 v2 n2 ys) (hne : e ≠ t) : v1.ownBlock = none ∨ v1.ownBlock ≠ v2.ownBlock := by
  rcases h1.2 with ⟨rfl, _⟩ | ⟨g, cap, cur, rfl, _, hg, _⟩
  · exact .inl rfl
  · rcases h2.2 with ⟨rfl, _⟩ | ⟨g2, cap2, cur2, rfl, _, hg2, _⟩
    · exact .inr (by simp [Value.ownBlock])
    · right
      intro h
      injection h with h
      have h3 : g = g2 := h
      subst h3
      rw [hg] at hg2
      injection hg2 with hg2
      injection hg2 with _ h4
      exact hne h4
theorem own_succ {l : List Ro} {i : Nat} {x : Ro} (h : l[i]? = some x) : ownL l (i + 1) = ownL l i ++ [ownRo x] := by
  unfold ownL
  rw [List.take_succ_eq_append_getElem (List.getElem?_eq_some_iff.1 h).1, List.map_append, (List.getElem?_eq_some_iff.1 h).2]
  rfl
theorem own_all {l : List Ro} {i : Nat} (h : l.length = i) (h9 : i ≤ 9) : ownL l i = ownL l 9 := by
  unfold ownL
  rw [List.take_of_length_le (by omega), List.take_of_length_le (by omega)]
theorem own_fin {l : List Ro} {w W : World} {ns : List RoA} {C : Option Addr} {f b : Nat} {cs : Array Value} (hk : Blk W (w.heap.size + 1) 24 cs) (ho : W.ownsRow b 42 7 (.slice C ns.length f) ns.length (ns.flatMap cellsR)) (hf : ∀ x ∈ ns, RoFr W x) (hb : Below w.heap.size w W) (h3 : b = w.heap.size + 3) (hn : ns.map RoA.d = ownL l 9) :
    RetOwn22 l w (.returned (.agg #[.slice C ns.length f])) (W.setCell ⟨w.heap.size + 1, 0, none⟩ (.slice C ns.length f)) :=
  ⟨ns, C, f, hn, rfl, own_low (own_farM ho (a := ⟨w.heap.size + 1, 0, none⟩) (by simp; omega) _) (by omega), fun x hx => (hf x hx).set hk (by decide) _, hb.setCell (p := ⟨w.heap.size + 1, 0, none⟩) (by simp) _⟩
set_option maxRecDepth 100000 in
set_option maxHeartbeats 8000000 in
theorem own_22 (A : Option Addr) (n c : Nat) (rows : List RoA) (w : World) (h : MArg w A n c rows) :
    Calls Try.prog 11 #[.agg #[.slice A n c]] w (RetOwn22 (rows.map RoA.d) w) := by
  obtain ⟨i0, hi0, hz0, hz1, hz2⟩ := info_parts3 row_info
  have HI := hid (And.intro hi0 (And.intro hz0 (And.intro hz1 hz2)))
  obtain ⟨w3, hw3⟩ : ∃ w3, w3 = ((w.alloc (.cells #[.slice A n c] 24)).alloc (.cells #[.slice none 0 0] 24)).alloc (.cells #[.slice none 0 0] 24) := ⟨_, rfl⟩
  have hs3 : w3.heap.size = w.heap.size + 3 := by rw [hw3]; simp
  have k0 : w3.cell? ⟨w.heap.size, 0, none⟩ = some (.slice A n c) := by rw [hw3]; exact (((Blk.new w 24 #[.slice A n c]).alloc _).alloc _).cell 0
  have HB3 := hid (show Below w.heap.size w w3 by rw [hw3]; exact (((Below.refl _ _).alloc (Nat.le_refl _) _).alloc (by simp) _).alloc (by simp; omega) _)
  have K1 := hid (show Blk w3 (w.heap.size + 1) 24 #[.slice none 0 0] by rw [hw3]; exact (Blk.new_at _ _ _ (by simp)).alloc _)
  have K2 := hid (show Blk w3 (w.heap.size + 1 + 1) 24 #[.slice none 0 0] by rw [hw3]; exact Blk.new_at _ _ _ (by simp))
  have HM := hid h
  have hln : rows.length = n := by obtain ⟨e, hr⟩ := h.rows; have := hr.1; rw [recs_len cellsR_len] at this; omega
  have HLN := hid hln
  have hnm : n ≤ 9223372036854775807 := by have := h.hn; have := h.hc; unfold maxLen at this; omega
  clear hi0 hz0 hz1 hz2 h hln
  rw [hw3] at k0
  go_enter Try.func11, Try.ntmps11
  go_wp2_with fail
  rw [← hw3]
  clear k0 hw3
  go_loopw [11] (fun u11 wr => ∃ (i : Nat) (ns : List RoA) (C : Option Addr) (f : Nat), i ≤ n ∧ i ≤ 9 ∧ u11 = .int .i64 (i : Nat) ∧ Hid (Blk wr (w.heap.size + 1) 24 #[.slice none 0 0] ∧ Blk wr (w.heap.size + 1 + 1) 24 #[.slice C ns.length f] ∧ wr.ownsRow w3.heap.size 42 7 (.slice C ns.length f) ns.length (ns.flatMap cellsR) ∧ (∀ x ∈ ns, RoFr wr x)) ∧ Hid ((Below w.heap.size w wr ∧ w3.heap.size ≤ wr.heap.size) ∧ ns.map RoA.d = ownL (rows.map RoA.d) i)) (fun u11 _ => n - (intOf u11).toNat)
  case atStart => exact ⟨0, [], none, 0, Nat.zero_le _, Nat.zero_le _, rfl, hid ⟨K1.out, K2.out, World.ownsRow_nil _ _ _ _, fun x hx => absurd hx (by simp)⟩, hid ⟨⟨HB3.out, Nat.le_refl _⟩, rfl⟩⟩
  case round =>
    obtain ⟨i, ns, C, f, hi, hi9, rfl, hst, hbn⟩ := hrel
    obtain ⟨wo, rfl⟩ : ∃ wo : World, wo = wr := ⟨_, rfl⟩
    have hsw : w3.heap.size ≤ wo.heap.size := hbn.out.1.2
    by_cases hlt : i < n
    · obtain ⟨er, hrw⟩ := HM.out.rows
      obtain ⟨ad, x, rfl, hx, hxl, c0, c1, c2, c3, c4, c5, c6⟩ := row_at (hrw.below hbn.out.1.1) hlt
      have hltI : (i : Int) < (n : Int) := by omega
      have h0I : (0 : Int) ≤ (i : Int) := by omega
      have hrx := (HM.out.each x (List.mem_of_getElem? hx)).below hbn.out.1.1
      have HXE := hid (show (rows.map RoA.d)[i]? = some x.d by rw [List.getElem?_map, hx]; rfl)
      clear hx hxl hrw
      obtain ⟨nm, ep, fl, la, sc, en, ea, ec, op, oa, oc⟩ := x
      by_cases h8I : (8 : Int) < (i : Int)
      · have H9 := hid (show i = 9 by omega)
        simp only at c0 c1 c2 c3 c4 c5 c6
        have HF := hid (own_fin (hst.out.1.alloc (.cells (aR nm ep fl la sc (.slice ea en.length ec) (.slice oa op.length oc)) 42)) (hst.out.2.2.1.alloc _) (fun x hx => (hst.out.2.2.2 x hx).below ((Below.refl _ _).alloc (Nat.le_refl _) _)) (hbn.out.1.1.alloc hbn.out.1.1.size _) hs3 (hbn.out.2.trans (by rw [H9.out])))
        have k2 : (wo.alloc (.cells (aR nm ep fl la sc (.slice ea en.length ec) (.slice oa op.length oc)) 42)).cell? ⟨w.heap.size + 1 + 1, 0, none⟩ = some (.slice C ns.length f) := (hst.out.2.1.alloc _).cell 0
        have k1 : (wo.alloc (.cells (aR nm ep fl la sc (.slice ea en.length ec) (.slice oa op.length oc)) 42)).cell? ⟨w.heap.size + 1, 0, none⟩ = some (.slice none 0 0) := (hst.out.1.alloc _).cell 0
        have kf : (wo.alloc (.cells (aR nm ep fl la sc (.slice ea en.length ec) (.slice oa op.length oc)) 42)).frozen? ⟨w.heap.size + 1, 0, none⟩ = false := (hst.out.1.alloc _).frozen 0
        have kl : w.heap.size + 1 < (wo.alloc (.cells (aR nm ep fl la sc (.slice ea en.length ec) (.slice oa op.length oc)) 42)).heap.size := (hst.out.1.alloc _).lt
        have kd := ((hst.out.1.alloc (.cells (aR nm ep fl la sc (.slice ea en.length ec) (.slice oa op.length oc)) 42)).set_ 0 (.slice C ns.length f)).cell 0
        clear hst hbn hrx
        go_wp2_with fail
        refine bodyPost_ret (v := .agg #[.slice C ns.length f]) ?_ rfl HF.out
        simp [results, Try.results11, go_sem, kd]
      · obtain ⟨n1, hn1⟩ : ∃ n1, n1 = en.length := ⟨_, rfl⟩
        obtain ⟨n2, hn2⟩ : ∃ n2, n2 = op.length := ⟨_, rfl⟩
        obtain ⟨m1, hm1⟩ : ∃ m1, m1 = min nm.size 20 := ⟨_, rfl⟩
        obtain ⟨m2, hm2⟩ : ∃ m2, m2 = min n1 20 := ⟨_, rfl⟩
        obtain ⟨m3, hm3⟩ : ∃ m3, m3 = min n2 40 := ⟨_, rfl⟩
        simp only at c0 c1 c2 c3 c4 c5 c6
        rw [← hn1] at c5
        rw [← hn2] at c6
        have hmin1 : ∀ w, (Builtin.min_ #[3, 3] 3 #[.int .i64 (nm.size : Int), .int .i64 20]).run Try.prog w = .ok (.int .i64 (m1 : Nat)) w := min_at hm1 20 rfl
        have hmin2 : ∀ w, (Builtin.min_ #[3, 3] 3 #[.int .i64 (n1 : Int), .int .i64 20]).run Try.prog w = .ok (.int .i64 (m2 : Nat)) w := min_at hm2 20 rfl
        have hmin3 : ∀ w, (Builtin.min_ #[3, 3] 3 #[.int .i64 (n2 : Int), .int .i64 40]).run Try.prog w = .ok (.int .i64 (m3 : Nat)) w := min_at hm3 40 rfl
        have hec := hrx.enc
        have hoc := hrx.opc
        simp only at hec hoc
        rw [← hn1] at hec
        rw [← hn2] at hoc
        have g1 : ((m1 : Nat) : Int) ≤ (nm.size : Nat) := by omega
        have g1n : m1 ≤ nm.size := by omega
        have g2 : ((m2 : Nat) : Int) ≤ (ec : Nat) := by omega
        have g2n : m2 ≤ ec := by omega
        have g3 : ((m3 : Nat) : Int) ≤ (oc : Nat) := by omega
        have g3n : m3 ≤ oc := by omega
        have HRX := hid hrx
        have HST := hid hst.out
        have HBN := hid hbn.out
        have HMM := hid (And.intro (And.intro hn1 hn2) (And.intro hm1 (And.intro hm2 hm3)))
        obtain ⟨s1, hs1⟩ : ∃ s1, s1 = nm.extract 0 m1 := ⟨_, rfl⟩
        obtain ⟨w4, hw4⟩ : ∃ w4, w4 = wo.alloc (.cells (aR nm ep fl la sc (.slice ea n1 ec) (.slice oa n2 oc)) 42) := ⟨_, rfl⟩
        have k4 : Blk w4 wo.heap.size 42 (aR nm ep fl la sc (.slice ea n1 ec) (.slice oa n2 oc)) := by rw [hw4]; exact Blk.new _ _ _
        have hb4 : Below wo.heap.size wo w4 := by rw [hw4]; exact (Below.refl _ _).alloc (Nat.le_refl _) _
        have K5 := hid (show Blk (wo.alloc (.cells (aR (nm.extract 0 m1) ep fl la sc (.slice ea n1 ec) (.slice oa n2 oc)) 42)) wo.heap.size 42 (aR (nm.extract 0 m1) ep fl la sc (.slice ea n1 ec) (.slice oa n2 oc)) from Blk.new _ _ _)
        have HB5 := hid (show Below wo.heap.size wo (wo.alloc (.cells (aR (nm.extract 0 m1) ep fl la sc (.slice ea n1 ec) (.slice oa n2 oc)) 42)) from (Below.refl _ _).alloc (Nat.le_refl _) _)
        have HCE := hid (fun W (hW : Below wo.heap.size wo W) => (show Calls Try.prog 36 #[.slice ea m2 ec] W fun e w' => ∃ C f, e = .returned (.slice C m2 f) ∧ w'.ownsRow W.heap.size 45 5 (.slice C m2 f) m2 ((en.take m2).flatMap cellsN) ∧ Below W.heap.size W w' by
          obtain ⟨e, hr⟩ := hrx.en
          simp only at hr
          rw [← hn1] at hr
          have h2 := (hr.below hW).take (k := m2) (by omega)
          rw [take_cellsN] at h2
          exact clone_e ea m2 ec _ W h2 (by omega)))
        have HCP := hid (fun W (hW : Below wo.heap.size wo W) => (show Calls Try.prog 37 #[.slice oa m3 oc] W fun e w' => ∃ C f, e = .returned (.slice C m3 f) ∧ w'.ownsRow W.heap.size 47 2 (.slice C m3 f) m3 ((op.take m3).flatMap cellsP) ∧ Below W.heap.size W w' by
          obtain ⟨e, hr⟩ := hrx.op
          simp only at hr
          rw [← hn2] at hr
          have h2 := (hr.below hW).take (k := m3) (by omega)
          rw [take_cells] at h2
          exact clone_p oa m3 oc _ W h2 (by omega)))
        clear hn1 hn2 hm1 hm2 hm3 hec hoc hrx hst hbn k4 hb4 hw4
        go_upto_region 7 with fail
        clear c0 c1 c2 c3 c4 c5 c6
        generalize wo.alloc (.cells (aR (nm.extract 0 m1) ep fl la sc (.slice ea n1 ec) (.slice oa n2 oc)) 42) = w5 at *
        refine wp_region_noPanic ?_
        refine AnyTill.begin (S := (fun W => W.cell? ⟨wo.heap.size, 5, none⟩ = some (.slice ea n1 ec) ∧ W.cell? ⟨wo.heap.size, 6, none⟩ = some (.slice oa n2 oc))) (t := 17) (by kernel_rfl) ⟨K5.out.drew.cell 5, K5.out.drew.cell 6⟩ (fun hHeld => ?_)
        refine AnyTill.take (i := 0) (v := ?_) rfl (by kernel_rfl) (by kernel_rfl) (by kernel_rfl) (by kernel_rfl) (by kernel_rfl) (fun _ _ _ h => h) (Or.inl ⟨by rfl, ?_⟩) (by assumption) ?_
        rotate_left
        · intro W hW
          obtain ⟨x5, x6⟩ := hW
          go_simp
          try rfl
        simp only [List.getElem_toArray, List.getElem_cons_zero, Act.put, List.setIfInBounds_toArray, List.set_cons_zero, List.set_cons_succ]
        refine AnyTill.take (i := 1) (v := ?_) rfl (by kernel_rfl) (by kernel_rfl) (by kernel_rfl) (by kernel_rfl) (by kernel_rfl) (fun _ _ _ h => h) (Or.inl ⟨by rfl, ?_⟩) (by assumption) ?_
        rotate_left
        · intro W hW
          obtain ⟨x5, x6⟩ := hW
          go_simp
          try rfl
        simp only [List.getElem_toArray, List.getElem_cons_succ, List.getElem_cons_zero, Act.put, List.setIfInBounds_toArray, List.set_cons_zero, List.set_cons_succ]
        refine AnyTill.take (i := 2) (v := ?_) rfl (by kernel_rfl) (by kernel_rfl) (by kernel_rfl) (by kernel_rfl) (by kernel_rfl) (fun _ _ _ h => h) (Or.inl ⟨by rfl, ?_⟩) (by assumption) ?_
        rotate_left
        · intro W hW
          obtain ⟨x5, x6⟩ := hW
          go_simp
          try rfl
        simp only [List.getElem_toArray, List.getElem_cons_succ, List.getElem_cons_zero, Act.put, List.setIfInBounds_toArray, List.set_cons_zero, List.set_cons_succ]
        refine AnyTill.take (i := 3) (v := ?_) rfl (by kernel_rfl) (by kernel_rfl) (by kernel_rfl) (by kernel_rfl) (by kernel_rfl) (fun _ _ _ h => h) (Or.inl ⟨by rfl, ?_⟩) (by assumption) ?_
        rotate_left
        · intro W hW
          obtain ⟨x5, x6⟩ := hW
          go_simp
          try rfl
        simp only [List.getElem_toArray, List.getElem_cons_succ, List.getElem_cons_zero, Act.put, List.setIfInBounds_toArray, List.set_cons_zero, List.set_cons_succ]
        refine AnyTill.take (i := 4) (v := ?_) rfl (by kernel_rfl) (by kernel_rfl) (by kernel_rfl) (by kernel_rfl) (by kernel_rfl) (fun _ _ _ h => h) (Or.inl ⟨by rfl, ?_⟩) (by assumption) ?_
        rotate_left
        · intro W hW
          obtain ⟨x5, x6⟩ := hW
          go_simp
          try rfl
        simp only [List.getElem_toArray, List.getElem_cons_succ, List.getElem_cons_zero, Act.put, List.setIfInBounds_toArray, List.set_cons_zero, List.set_cons_succ]
        refine AnyTill.take (i := 5) (v := ?_) rfl (by kernel_rfl) (by kernel_rfl) (by kernel_rfl) (by kernel_rfl) (by kernel_rfl) (fun _ _ _ h => h) (Or.inl ⟨by rfl, ?_⟩) (by assumption) ?_
        rotate_left
        · intro W hW
          obtain ⟨x5, x6⟩ := hW
          go_simp
          try rfl
        simp only [List.getElem_toArray, List.getElem_cons_succ, List.getElem_cons_zero, Act.put, List.setIfInBounds_toArray, List.set_cons_zero, List.set_cons_succ]
        refine AnyTill.take (i := 6) (v := ?_) rfl (by kernel_rfl) (by kernel_rfl) (by kernel_rfl) (by kernel_rfl) (by kernel_rfl) (fun _ _ _ h => h) (Or.inl ⟨by rfl, ?_⟩) (by assumption) ?_
        rotate_left
        · intro W hW
          obtain ⟨x5, x6⟩ := hW
          go_simp
          try rfl
        simp only [List.getElem_toArray, List.getElem_cons_succ, List.getElem_cons_zero, Act.put, List.setIfInBounds_toArray, List.set_cons_zero, List.set_cons_succ]
        refine AnyTill.take (i := 8) (v := ?_) rfl (by kernel_rfl) (by kernel_rfl) (by kernel_rfl) (by kernel_rfl) (by kernel_rfl) (fun _ _ _ h => h) (Or.inl ⟨by rfl, ?_⟩) (by assumption) ?_
        rotate_left
        · intro W hW
          obtain ⟨x5, x6⟩ := hW
          go_simp
          try rfl
        simp only [List.getElem_toArray, List.getElem_cons_succ, List.getElem_cons_zero, Act.put, List.setIfInBounds_toArray, List.set_cons_zero, List.set_cons_succ]
        refine AnyTill.take (i := 9) (v := ?_) rfl (by kernel_rfl) (by kernel_rfl) (by kernel_rfl) (by kernel_rfl) (by kernel_rfl) (fun _ _ _ h => h) (Or.inl ⟨by rfl, ?_⟩) (by assumption) ?_
        rotate_left
        · intro W hW
          obtain ⟨x5, x6⟩ := hW
          go_simp
          try rfl
        simp only [List.getElem_toArray, List.getElem_cons_succ, List.getElem_cons_zero, Act.put, List.setIfInBounds_toArray, List.set_cons_zero, List.set_cons_succ]
        refine AnyTill.take (i := 10) (v := ?_) rfl (by kernel_rfl) (by kernel_rfl) (by kernel_rfl) (by kernel_rfl) (by kernel_rfl) (fun _ _ _ h => h) (Or.inl ⟨by rfl, ?_⟩) (by assumption) ?_
        rotate_left
        · intro W hW
          obtain ⟨x5, x6⟩ := hW
          go_simp
          try rfl
        simp only [List.getElem_toArray, List.getElem_cons_succ, List.getElem_cons_zero, Act.put, List.setIfInBounds_toArray, List.set_cons_zero, List.set_cons_succ]
        refine AnyTill.take (i := 11) (v := ?_) rfl (by kernel_rfl) (by kernel_rfl) (by kernel_rfl) (by kernel_rfl) (by kernel_rfl) (fun _ _ _ h => h) (Or.inl ⟨by rfl, ?_⟩) (by assumption) ?_
        rotate_left
        · intro W hW
          obtain ⟨x5, x6⟩ := hW
          go_simp
          try rfl
        simp only [List.getElem_toArray, List.getElem_cons_succ, List.getElem_cons_zero, Act.put, List.setIfInBounds_toArray, List.set_cons_zero, List.set_cons_succ]
        refine AnyTill.takeP (i := 12) (v := ?_) rfl (by kernel_rfl) (by kernel_rfl) (by kernel_rfl) (by kernel_rfl) (fun _ _ _ h => h) (Or.inl ⟨by rfl, ?_⟩) (fun _ => by assumption) ?_
        rotate_left
        · intro W hW
          go_simp
          try rfl
        simp only [List.getElem_toArray, List.getElem_cons_succ, List.getElem_cons_zero, Act.put, List.setIfInBounds_toArray, List.set_cons_zero, List.set_cons_succ]
        refine AnyTill.takeP (i := 13) (v := ?_) rfl (by kernel_rfl) (by kernel_rfl) (by kernel_rfl) (by kernel_rfl) (fun _ _ _ h => h) (Or.inl ⟨by rfl, ?_⟩) (fun _ => by assumption) ?_
        rotate_left
        · intro W hW
          go_simp
          try rfl
        simp only [List.getElem_toArray, List.getElem_cons_succ, List.getElem_cons_zero, Act.put, List.setIfInBounds_toArray, List.set_cons_zero, List.set_cons_succ]
        refine AnyTill.takeP (i := 14) (v := ?_) rfl (by kernel_rfl) (by kernel_rfl) (by kernel_rfl) (by kernel_rfl) (fun _ _ _ h => h) (Or.inl ⟨by rfl, ?_⟩) (fun _ => by assumption) ?_
        rotate_left
        · intro W hW
          go_simp
          try rfl
        simp only [List.getElem_toArray, List.getElem_cons_succ, List.getElem_cons_zero, Act.put, List.setIfInBounds_toArray, List.set_cons_zero, List.set_cons_succ]
        clear hHeld hmin1 hmin2 hmin3
        have hd5 := (HB5.out).drew
        refine AnyTill.one (j := 7) (by kernel_rfl) rfl (fun K hK => ?_)
        go_simp
        refine (HCE.out _ hd5).mono ?_
        rintro d w6 ⟨C1, f1, rfl, ho6, hb6⟩
        refine hK.out _ _ (fun _ => ⟨(K5.out.drew.under hb6).cell 5, (K5.out.drew.under hb6).cell 6⟩) ?_
        clear hK K
        try simp only [List.getElem_toArray, List.getElem_cons_succ, List.getElem_cons_zero, Act.put, List.setIfInBounds_toArray, List.set_cons_zero, List.set_cons_succ]
        have hd6 : Below wo.heap.size wo w6 := hd5.trans (hb6.mono hd5.size)
        refine AnyTill.takeP (i := 16) (v := ?_) rfl (by kernel_rfl) (by kernel_rfl) (by kernel_rfl) (by kernel_rfl) (fun _ _ _ h => h) (Or.inl ⟨by rfl, ?_⟩) (fun _ => ⟨(K5.out.drew.under hb6).cell 5, (K5.out.drew.under hb6).cell 6⟩) ?_
        rotate_left
        · intro W hW
          go_simp
          try rfl
        simp only [List.getElem_toArray, List.getElem_cons_succ, List.getElem_cons_zero, Act.put, List.setIfInBounds_toArray, List.set_cons_zero, List.set_cons_succ]
        refine AnyTill.one (j := 15) (by kernel_rfl) rfl (fun K hK => ?_)
        go_simp
        refine (HCP.out _ hd6).mono ?_
        rintro d w7 ⟨C2, f2, rfl, ho7, hb7⟩
        refine hK.out _ _ (fun _ => ⟨((K5.out.drew.under hb6).under hb7).cell 5, ((K5.out.drew.under hb6).under hb7).cell 6⟩) ?_
        clear hK K
        try simp only [List.getElem_toArray, List.getElem_cons_succ, List.getElem_cons_zero, Act.put, List.setIfInBounds_toArray, List.set_cons_zero, List.set_cons_succ]
        have K7 : Blk w7 wo.heap.size 42 (aR (nm.extract 0 m1) ep fl la sc (.slice ea n1 ec) (.slice oa n2 oc)) := (K5.out.drew.under hb6).under hb7
        have o1 : w7.ownsRow w5.heap.size 45 5 (.slice C1 m2 f1) m2 ((en.take m2).flatMap cellsN) := own_below ho6 hb7
        have o2 : w7.ownsRow w5.heap.size 47 2 (.slice C2 m3 f2) m3 ((op.take m3).flatMap cellsP) := own_low ho7 hb6.size
        have hd7 : Below wo.heap.size wo w7 := hd6.trans (hb7.mono hd6.size)
        have h57 : w5.heap.size ≤ w7.heap.size := Nat.le_trans hb6.size hb7.size
        have hr5 : wo.heap.size < w5.heap.size := K5.out.lt
        obtain ⟨x0, x1, x2, x3, x4, x5, x6⟩ := K7.seven
        have xf := K7.frozen
        have xl := K7.lt
        clear hd5 hd6 hb6 hb7 ho6 ho7 K5 HB5
        have K8 := K7.set_ 5 (.slice C1 m2 f1)
        have f5 := xf 5
        refine AnyTill.one (j := 17) (by kernel_rfl) rfl (fun K hK => ?_)
        go_simp
        refine hK.out _ _ (fun h => absurd h (by decide)) ?_
        clear hK K
        try simp only [List.getElem_toArray, List.getElem_cons_succ, List.getElem_cons_zero, Act.put, List.setIfInBounds_toArray, List.set_cons_zero, List.set_cons_succ]
        have o1' := own_farM o1 (a := ⟨wo.heap.size, 5, none⟩) (by simpa using hr5) (.slice C1 m2 f1)
        have o2' := own_farM o2 (a := ⟨wo.heap.size, 5, none⟩) (by simpa using hr5) (.slice C1 m2 f1)
        have hd8 := hd7.setCell (p := ⟨wo.heap.size, 5, none⟩) (Nat.le_refl _) (.slice C1 m2 f1)
        have h58 : w5.heap.size ≤ (w7.setCell ⟨wo.heap.size, 5, none⟩ (.slice C1 m2 f1)).heap.size := by simpa using h57
        clear o1 o2 hd7 h57 x0 x1 x2 x3 x4 x5 x6 xf xl K7 f5
        generalize w7.setCell ⟨wo.heap.size, 5, none⟩ (.slice C1 m2 f1) = w8 at *
        have K8 : Blk w8 wo.heap.size 42 (aR (nm.extract 0 m1) ep fl la sc (.slice C1 m2 f1) (.slice oa n2 oc)) := K8
        refine AnyTill.one (j := 18) (by kernel_rfl) rfl (fun K hK => ?_)
        go_simp
        refine hK.out _ _ (fun h => absurd h (by decide)) ?_
        clear hK K
        try simp only [List.getElem_toArray, List.getElem_cons_succ, List.getElem_cons_zero, Act.put, List.setIfInBounds_toArray, List.set_cons_zero, List.set_cons_succ]
        obtain ⟨x0, x1, x2, x3, x4, x5, x6⟩ := K8.seven
        have f6 := K8.frozen 6
        have xl := K8.lt
        have K9 := K8.set_ 6 (.slice C2 m3 f2)
        refine AnyTill.one (j := 19) (by kernel_rfl) rfl (fun K hK => ?_)
        go_simp
        refine hK.out _ _ (fun h => absurd h (by decide)) ?_
        clear hK K
        try simp only [List.getElem_toArray, List.getElem_cons_succ, List.getElem_cons_zero, Act.put, List.setIfInBounds_toArray, List.set_cons_zero, List.set_cons_succ]
        have o1 := own_farM o1' (a := ⟨wo.heap.size, 6, none⟩) (by simpa using hr5) (.slice C2 m3 f2)
        have o2 := own_farM o2' (a := ⟨wo.heap.size, 6, none⟩) (by simpa using hr5) (.slice C2 m3 f2)
        have hd9 := hd8.setCell (p := ⟨wo.heap.size, 6, none⟩) (Nat.le_refl _) (.slice C2 m3 f2)
        have h59 : w5.heap.size ≤ (w8.setCell ⟨wo.heap.size, 6, none⟩ (.slice C2 m3 f2)).heap.size := by simpa using h58
        clear o1' o2' hd8 h58 x0 x1 x2 x3 x4 x5 x6 xl K8 f6
        generalize w8.setCell ⟨wo.heap.size, 6, none⟩ (.slice C2 m3 f2) = w9 at *
        have K9 : Blk w9 wo.heap.size 42 (aR (nm.extract 0 m1) ep fl la sc (.slice C1 m2 f1) (.slice C2 m3 f2)) := K9
        refine AnyTill.done (by kernel_rfl) ?_ _
        refine NoPanic.normal ?_
        obtain ⟨x0, x1, x2, x3, x4, x5, x6⟩ := K9.seven
        have K9 := hid K9
        have O1 := hid o1
        have O2 := hid o2
        have HD9 := hid hd9
        clear o1 o2 hd9 x0 x1 x2 x3 x4 x6
        go_upto_region 9 with fail
        have HN9 := hid (And.intro hr5 h59)
        clear x5 HCE HCP
        go_loopw [47] (fun u47 wr => ∃ (k : Nat) (dn : List EnA), k ≤ m2 ∧ u47 = .int .i64 (k : Nat) ∧ Hid (dn.length = k ∧ wr.ownsRow w5.heap.size 45 5 (.slice C1 m2 f1) m2 ((dn ++ (en.take m2).drop k).flatMap cellsN) ∧ dn.map Prod.fst = ((en.take m2).take k).map (fun e => ownEn e.1) ∧ ∀ x ∈ dn, Reads wr 3 1 x.2.1 x.1.ps.length (x.1.ps.map (Value.int .i64)) ∧ x.1.ps.length ≤ x.2.2) ∧ Hid (w9.grownBy wr (Value.slice C1 m2 f1).ownBlock)) (fun u47 _ => m2 - (intOf u47).toNat)
        case atStart => exact ⟨0, [], Nat.zero_le _, rfl, hid ⟨rfl, by simpa using O1.out, rfl, fun x hx => absurd hx (by simp)⟩, hid ⟨rfl, rfl, rfl, Nat.le_refl _, fun _ _ _ => rfl⟩⟩
        case round =>
          obtain ⟨k, dn, hk, rfl, hq, hg⟩ := hrel
          have hbq : Below wo.heap.size wo wr := HD9.out.grown hg.out (by have := HN9.out; omega) (fun b hb => by have := O1.out.lt b hb; have := HN9.out; omega)
          have hsq := hg.out.size
          by_cases hkm : k < m2
          · have hm20 : m2 ≤ 20 := by have := HMM.out.2.2.1; omega
            obtain ⟨hdl, hown, hdm, hdr⟩ := hq.out
            have hml : (en.take m2).length = m2 := by rw [List.length_take]; have := HMM.out; omega
            obtain ⟨e, he⟩ : ∃ e, (en.take m2)[k]? = some e := ⟨_, List.getElem?_eq_getElem (by omega)⟩
            have hdp : (en.take m2).drop k = e :: (en.take m2).drop (k + 1) := by rw [List.drop_eq_getElem_cons (List.getElem?_eq_some_iff.1 he).1, (List.getElem?_eq_some_iff.1 he).2]
            rw [hdp] at hown
            obtain ⟨a2, x2, hC, hx2, _, c0, c1, c2, c3, c4⟩ := en_at (Reads.of_own hown) hkm
            rw [List.getElem?_append_right (by omega), hdl, Nat.sub_self, List.getElem?_cons_zero] at hx2
            injection hx2 with hx2
            subst hx2
            subst hC
            have hem : e ∈ en := List.mem_of_mem_take (List.mem_of_getElem? he)
            obtain ⟨⟨t4, hrp⟩, ⟨hp1, hp2⟩, _⟩ := HRX.out.ens e hem
            obtain ⟨⟨fs, ls, ct, by_, ps⟩, eA, eC⟩ := e
            obtain ⟨n4, hn4⟩ : ∃ n4, n4 = ps.length := ⟨_, rfl⟩
            obtain ⟨m4, hm4⟩ : ∃ m4, m4 = min n4 40 := ⟨_, rfl⟩
            simp only at c0 c1 c2 c3 c4 hrp hp1 hp2
            rw [← hn4] at c3 hrp hp1
            have hmin4 : ∀ w, (Builtin.min_ #[3, 3] 3 #[.int .i64 (n4 : Int), .int .i64 40]).run Try.prog w = .ok (.int .i64 (m4 : Nat)) w := min_at hm4 40 rfl
            have q4 : ((m4 : Nat) : Int) ≤ (eC : Nat) := by omega
            have q4n : m4 ≤ eC := by omega
            have hkI : (k : Int) < (m2 : Int) := by omega
            have hk0 : (0 : Int) ≤ (k : Int) := by omega
            have hn4m : n4 ≤ 9223372036854775807 := by unfold maxLen at hp2; omega
            have HCN := hid (fun W (hW : Below wo.heap.size wo W) => (show Calls Try.prog 38 #[.slice eA m4 eC] W fun e w' => ∃ C f, e = .returned (.slice C m4 f) ∧ w'.ownsRow W.heap.size 3 1 (.slice C m4 f) m4 ((ps.take m4).map (Value.int .i64)) ∧ Below W.heap.size W w' by
              have h2 := (hrp.below hW).take (k := m4) (by omega)
              rw [Nat.mul_one, ← List.map_take] at h2
              exact clone_n eA m4 eC _ W h2 (by omega)))
            obtain ⟨hput, hfz, hal, hab, haa, hgt⟩ := own_put hown (k := k) (r := 3) (by omega) (.slice none 0 0)
            have HAA := hid haa
            clear hput hfz hgt haa
            have KE := hid (Blk.new wr 45 (aE fs ls ct (.slice eA n4 eC) by_))
            have hneC : (Value.slice (some a2) m2 f1).ownBlock ≠ some wo.heap.size := by intro h; have := O1.out.lt _ h; have := HN9.out; omega
            have KQ := hid ((Blk.grown K9.out hg.out (fun e => hneC e.symm)).alloc (.cells (aE fs ls ct (.slice eA n4 eC) by_) 45))
            have hbe := hbq.alloc hbq.size (.cells (aE fs ls ct (.slice eA n4 eC) by_) 45)
            have hge : w9.grownBy (wr.alloc (.cells (aE fs ls ct (.slice eA n4 eC) by_) 45)) (Value.slice (some a2) m2 f1).ownBlock := grown_on hg.out ((Below.refl _ _).alloc (Nat.le_refl _) _)
            have HQQ := hid (And.intro (And.intro hdl (hown.alloc (.cells (aE fs ls ct (.slice eA n4 eC) by_) 45))) (And.intro hdm (And.intro (fun x hx => And.intro ((hdr x hx).1.alloc (.cells (aE fs ls ct (.slice eA n4 eC) by_) 45)) (hdr x hx).2) (And.intro hge (And.intro hbe (And.intro hn4 (And.intro hm4 he)))))))
            have hel : wr.heap.size < (wr.alloc (.cells (aE fs ls ct (.slice eA n4 eC) by_) 45)).heap.size := KE.out.lt
            have hwr5 := HN9.out.1
            clear hdl hown hdm hdr hml hdp hem hrp hp1 hp2 hn4 hm4 hneC hbe hge hq hg hbq
            go_upto_region 11 with fail
            clear c0 c1 c2 c3 c4
            generalize wr.alloc (.cells (aE fs ls ct (.slice eA n4 eC) by_) 45) = wE at *
            have hdE := HQQ.out.2.2.2.2.1.drew
            refine wp_region_noPanic ?_
            refine wp_region_held_drew (S := (fun W => W.cell? ⟨wo.heap.size, 5, none⟩ = some (.slice (some a2) m2 f1) ∧ W.cell? ⟨wr.heap.size, 3, none⟩ = some (.slice eA n4 eC))) (by kernel_rfl) ⟨KQ.out.drew.cell 5, KE.out.drew.cell 3⟩ (fun hHeld => ?_)
            refine wpAnyH_take (i := 0) (v := ?_) rfl (by kernel_rfl) (by kernel_rfl) (by kernel_rfl) (fun _ _ _ h => h) (Or.inl ⟨by rfl, ?_⟩) (by assumption) ?_
            rotate_left
            · intro W hW
              obtain ⟨y5, y3⟩ := hW
              go_simp
              try rfl
            simp only [List.getElem_toArray, List.getElem_cons_zero, Act.put, List.setIfInBounds_toArray, List.set_cons_zero, List.set_cons_succ]
            refine wpAnyH_take (i := 1) (v := ?_) rfl (by kernel_rfl) (by kernel_rfl) (by kernel_rfl) (fun _ _ _ h => h) (Or.inl ⟨by rfl, ?_⟩) (by assumption) ?_
            rotate_left
            · intro W hW
              obtain ⟨y5, y3⟩ := hW
              go_simp
              try rfl
            simp only [List.getElem_toArray, List.getElem_cons_succ, List.getElem_cons_zero, Act.put, List.setIfInBounds_toArray, List.set_cons_zero, List.set_cons_succ]
            refine wpAnyH_take (i := 2) (v := ?_) rfl (by kernel_rfl) (by kernel_rfl) (by kernel_rfl) (fun _ _ _ h => h) (Or.inl ⟨by rfl, ?_⟩) (by assumption) ?_
            rotate_left
            · intro W hW
              obtain ⟨y5, y3⟩ := hW
              go_simp
              try rfl
            simp only [List.getElem_toArray, List.getElem_cons_succ, List.getElem_cons_zero, Act.put, List.setIfInBounds_toArray, List.set_cons_zero, List.set_cons_succ]
            refine wpAnyH_take (i := 3) (v := ?_) rfl (by kernel_rfl) (by kernel_rfl) (by kernel_rfl) (fun _ _ _ h => h) (Or.inl ⟨by rfl, ?_⟩) (by assumption) ?_
            rotate_left
            · intro W hW
              obtain ⟨y5, y3⟩ := hW
              go_simp
              try rfl
            simp only [List.getElem_toArray, List.getElem_cons_succ, List.getElem_cons_zero, Act.put, List.setIfInBounds_toArray, List.set_cons_zero, List.set_cons_succ]
            refine wpAnyH_take (i := 4) (v := ?_) rfl (by kernel_rfl) (by kernel_rfl) (by kernel_rfl) (fun _ _ _ h => h) (Or.inl ⟨by rfl, ?_⟩) (by assumption) ?_
            rotate_left
            · intro W hW
              obtain ⟨y5, y3⟩ := hW
              go_simp
              try rfl
            simp only [List.getElem_toArray, List.getElem_cons_succ, List.getElem_cons_zero, Act.put, List.setIfInBounds_toArray, List.set_cons_zero, List.set_cons_succ]
            refine wpAnyH_take (i := 5) (v := ?_) rfl (by kernel_rfl) (by kernel_rfl) (by kernel_rfl) (fun _ _ _ h => h) (Or.inl ⟨by rfl, ?_⟩) (by assumption) ?_
            rotate_left
            · intro W hW
              obtain ⟨y5, y3⟩ := hW
              go_simp
              try rfl
            simp only [List.getElem_toArray, List.getElem_cons_succ, List.getElem_cons_zero, Act.put, List.setIfInBounds_toArray, List.set_cons_zero, List.set_cons_succ]
            refine wpAnyH_take (i := 6) (v := ?_) rfl (by kernel_rfl) (by kernel_rfl) (by kernel_rfl) (fun _ _ _ h => h) (Or.inl ⟨by rfl, ?_⟩) (by assumption) ?_
            rotate_left
            · intro W hW
              obtain ⟨y5, y3⟩ := hW
              go_simp
              try rfl
            simp only [List.getElem_toArray, List.getElem_cons_succ, List.getElem_cons_zero, Act.put, List.setIfInBounds_toArray, List.set_cons_zero, List.set_cons_succ]
            refine wpAnyH_take (i := 7) (v := ?_) rfl (by kernel_rfl) (by kernel_rfl) (by kernel_rfl) (fun _ _ _ h => h) (Or.inl ⟨by rfl, ?_⟩) (by assumption) ?_
            rotate_left
            · intro W hW
              obtain ⟨y5, y3⟩ := hW
              go_simp
              try rfl
            simp only [List.getElem_toArray, List.getElem_cons_succ, List.getElem_cons_zero, Act.put, List.setIfInBounds_toArray, List.set_cons_zero, List.set_cons_succ]
            refine wpAnyH_take (i := 8) (v := ?_) rfl (by kernel_rfl) (by kernel_rfl) (by kernel_rfl) (fun _ _ _ h => h) (Or.inl ⟨by rfl, ?_⟩) (by assumption) ?_
            rotate_left
            · intro W hW
              obtain ⟨y5, y3⟩ := hW
              go_simp
              try rfl
            simp only [List.getElem_toArray, List.getElem_cons_succ, List.getElem_cons_zero, Act.put, List.setIfInBounds_toArray, List.set_cons_zero, List.set_cons_succ]
            refine wpAnyH_take (i := 9) (v := ?_) rfl (by kernel_rfl) (by kernel_rfl) (by kernel_rfl) (fun _ _ _ h => h) (Or.inl ⟨by rfl, ?_⟩) (by assumption) ?_
            rotate_left
            · intro W hW
              obtain ⟨y5, y3⟩ := hW
              go_simp
              try rfl
            simp only [List.getElem_toArray, List.getElem_cons_succ, List.getElem_cons_zero, Act.put, List.setIfInBounds_toArray, List.set_cons_zero, List.set_cons_succ]
            refine wpAnyH_ready (rs := [10]) (by kernel_rfl) (by simp) ?_
            refine AllReadyH.cons rfl (fun K hK => ?_) AllReadyH.nil
            go_simp
            refine (HCN.out _ hdE).mono ?_
            rintro d w10 ⟨Cp, fp, rfl, hop, hb10⟩
            refine hK.out _ _ ⟨(KQ.out.drew.under hb10).cell 5, (KE.out.drew.under hb10).cell 3⟩ (fun hHeld => ?_)
            clear hK K
            try simp only [List.getElem_toArray, List.getElem_cons_succ, List.getElem_cons_zero, Act.put, List.setIfInBounds_toArray, List.set_cons_zero, List.set_cons_succ]
            refine wpAnyH_take (i := 11) (v := ?_) rfl (by kernel_rfl) (by kernel_rfl) (by kernel_rfl) (fun _ _ _ h => h) (Or.inl ⟨by rfl, ?_⟩) (by assumption) ?_
            rotate_left
            · intro W hW
              go_simp
              try rfl
            simp only [List.getElem_toArray, List.getElem_cons_succ, List.getElem_cons_zero, Act.put, List.setIfInBounds_toArray, List.set_cons_zero, List.set_cons_succ]
            refine wpAnyH_take (i := 12) (v := ?_) rfl (by kernel_rfl) (by kernel_rfl) (by kernel_rfl) (fun _ _ _ h => h) (Or.inl ⟨by rfl, ?_⟩) (by assumption) ?_
            rotate_left
            · intro W hW
              go_simp
              try rfl
            simp only [List.getElem_toArray, List.getElem_cons_succ, List.getElem_cons_zero, Act.put, List.setIfInBounds_toArray, List.set_cons_zero, List.set_cons_succ]
            have own10 := own_below (w := wE.drew) HQQ.out.1.2 hb10
            obtain ⟨hput, hfz, hal2, hu1, hu2, hgt⟩ := own_put own10 (k := k) (r := 3) (by omega) (.slice Cp m4 fp)
            clear hu1 hu2
            have hcl := hgt (.slice eA n4 eC) (by
              have := get_here dn ((en.take m2).drop (k + 1)) (⟨fs, ls, ct, by_, ps⟩, eA, eC)
              rw [HQQ.out.1.1, ← HQQ.out.2.2.2.2.2.1] at this
              exact this)
            have hal3 : (a2.add (k * 5)).block < w10.heap.size := by rw [HAA.out]; exact hal2
            have KQ10 := KQ.out.drew.under hb10
            have KE10 := KE.out.drew.under hb10
            have hne1 : wo.heap.size ≠ (a2.add (k * 5)).block := by rw [HAA.out]; omega
            have hne2 : wr.heap.size ≠ (a2.add (k * 5)).block := by rw [HAA.out]; omega
            have KQ11 := KQ10.far (p := ⟨(a2.add (k * 5)).block, (a2.add (k * 5)).off + 3, none⟩) hne1 (.slice Cp m4 fp)
            have KE11 := KE10.far (p := ⟨(a2.add (k * 5)).block, (a2.add (k * 5)).off + 3, none⟩) hne2 (.slice Cp m4 fp)
            clear hgt
            refine wpAnyH_ready (rs := [13]) (by kernel_rfl) (by simp) ?_
            refine AllReadyH.cons rfl (fun K hK => ?_) AllReadyH.nil
            go_simp
            refine hK.out _ _ ⟨KQ11.cell 5, KE11.cell 3⟩ (fun hHeld => ?_)
            clear hK K
            try simp only [List.getElem_toArray, List.getElem_cons_succ, List.getElem_cons_zero, Act.put, List.setIfInBounds_toArray, List.set_cons_zero, List.set_cons_succ]
            refine wpAnyH_done (by kernel_rfl) ?_ _
            refine NoPanic.normal ?_
            have HP := hid hput
            have HOP := hid hop
            have HB10 := hid hb10
            clear hHeld hput hfz hal2 hcl hal3 KQ10 KE10 KQ11 KE11 own10 hop hb10 KQ KE hmin4 hdE
            obtain ⟨w11, hw11⟩ : ∃ w11, w11 = w10.setCell ⟨(a2.add (k * 5)).block, (a2.add (k * 5)).off + 3, none⟩ (.slice Cp m4 fp) := ⟨_, rfl⟩
            rw [← hw11] at HP ⊢
            have hdl := HQQ.out.1.1
            have hty : Typed w10 (a2.add (k * 5)).block 45 := by rw [HAA.out]; exact own_typedE (own_below (w := wE.drew) HQQ.out.1.2 HB10.out)
            have hm4l : m4 = (ps.take 40).length := by rw [List.length_take, HQQ.out.2.2.2.2.2.2.1, HQQ.out.2.2.2.2.2.1]; omega
            have hps : ps.take m4 = ps.take 40 := by rw [HQQ.out.2.2.2.2.2.2.1, HQQ.out.2.2.2.2.2.1]; exact take_min' ps 40
            have hO := HP.out
            rw [← hdl, set_here dn ((en.take m2).drop (dn.length + 1)) (⟨fs, ls, ct, by_, ps⟩, eA, eC) (ownEn ⟨fs, ls, ct, by_, ps⟩, Cp, fp) (.slice Cp m4 fp) (by unfold ownEn cellsN; simp only [List.set_cons_succ, List.set_cons_zero]; rw [← hm4l])] at hO
            have HN := hid (show (dn ++ [(ownEn ⟨fs, ls, ct, by_, ps⟩, Cp, fp)]).length = k + 1 ∧ w11.ownsRow w5.heap.size 45 5 (.slice (some a2) m2 f1) m2 (((dn ++ [(ownEn ⟨fs, ls, ct, by_, ps⟩, Cp, fp)]) ++ (en.take m2).drop (k + 1)).flatMap cellsN) ∧ (dn ++ [(ownEn ⟨fs, ls, ct, by_, ps⟩, Cp, fp)]).map Prod.fst = ((en.take m2).take (k + 1)).map (fun e => ownEn e.1) ∧ ∀ x ∈ dn ++ [(ownEn ⟨fs, ls, ct, by_, ps⟩, Cp, fp)], Reads w11 3 1 x.2.1 x.1.ps.length (x.1.ps.map (Value.int .i64)) ∧ x.1.ps.length ≤ x.2.2 from by
              refine ⟨by simp [hdl], by rw [← hdl]; exact hO, ?_, ?_⟩
              · have he := HQQ.out.2.2.2.2.2.2.2
                rw [List.map_append, HQQ.out.2.1, List.take_succ_eq_append_getElem (List.getElem?_eq_some_iff.1 he).1, List.map_append, (List.getElem?_eq_some_iff.1 he).2]
                rfl
              · intro x hx
                rw [hw11]
                rcases List.mem_append.1 hx with hx | hx
                · exact ⟨(((HQQ.out.2.2.1 x hx).1.drew).below HB10.out).setCell (p := ⟨(a2.add (k * 5)).block, (a2.add (k * 5)).off + 3, none⟩) hty (by decide) _, (HQQ.out.2.2.1 x hx).2⟩
                · obtain rfl := List.mem_singleton.1 hx
                  have h := Reads.of_own HOP.out
                  rw [hps] at h
                  show Reads _ _ 1 Cp (ps.take 40).length _ ∧ (ps.take 40).length ≤ fp
                  rw [← hm4l]
                  obtain ⟨_, _, hv1, hv2, _⟩ := own_form HOP.out
                  injection hv1 with _ _ hv3
                  refine ⟨?_, by omega⟩
                  exact h.setCell (p := ⟨(a2.add (k * 5)).block, (a2.add (k * 5)).off + 3, none⟩) hty (by decide) _)
            have HG := hid (show w9.grownBy w11 (Value.slice (some a2) m2 f1).ownBlock by
              rw [hw11]
              exact grown_set (grown_on (grown_on HQQ.out.2.2.2.1 (Below.refl _ _).drew) HB10.out) (by show some a2.block = some (a2.add (k * 5)).block; rw [HAA.out]) _)
            clear hw11 hdl hty hm4l hps hO HP HOP HB10 HQQ HAA
            generalize dn ++ [(ownEn ⟨fs, ls, ct, by_, ps⟩, Cp, fp)] = dn2 at *
            go_wp2_with fail
            go_roundw
            case rel => exact ⟨k + 1, dn2, by omega, by go_num, HN, HG⟩
            case measure => simp [intOf]; omega
          · obtain rfl : k = m2 := by omega
            obtain ⟨hdl, hown, hdm, hdr⟩ := hq.out
            have hdm2 : dn.map Prod.fst = (en.take k).map (fun e => ownEn e.1) := by rw [hdm, List.take_take, Nat.min_self]
            rw [show (en.take k).drop k = [] from List.drop_eq_nil_of_le (by rw [List.length_take]; omega), List.append_nil] at hown
            have hopl : (op.take m3).length = m3 := by rw [List.length_take]; have := HMM.out; omega
            obtain ⟨x, hx⟩ : ∃ x : RoA, x = ⟨nm.extract 0 m1, ep, fl, la, sc, dn, C1, f1, op.take m3, C2, f2⟩ := ⟨_, rfl⟩
            have hne5 : (Value.slice C1 k f1).ownBlock ≠ some wo.heap.size := by intro h; have := O1.out.lt _ h; have := HN9.out; omega
            have KR := Blk.grown K9.out hg.out (fun e => hne5 e.symm)
            have K1' := HST.out.1.below hbq (by have := HST.out.1.lt; omega)
            have K2' := HST.out.2.1.below hbq (by have := HST.out.2.1.lt; omega)
            have hns := own_below HST.out.2.2.1 hbq
            have hrf : ∀ y ∈ ns, RoFr wr y := fun y hy => (HST.out.2.2.2 y hy).below hbq
            have O2' := O2.out.kept hg.out (own_ne3 O2.out O1.out (by decide))
            have h20 : k ≤ 20 := by have := HMM.out.2.2.1; omega
            have h40 : m3 ≤ 40 := by have := HMM.out.2.2.2; omega
            have HXF := hid (show RoFr wr x by
              rw [hx]
              refine ⟨?_, fun e he => (hdr e he).1, ?_, ?_, ?_, ?_, ?_, ?_, fun e he => (hdr e he).2⟩
              · show Reads wr _ 5 C1 dn.length _
                rw [hdl]; exact Reads.of_own hown
              · show Reads wr _ 2 C2 (op.take m3).length _
                rw [hopl]; exact Reads.of_own O2'
              · intro e he
                have h1 : e.1 ∈ dn.map Prod.fst := List.mem_map_of_mem he
                rw [hdm2] at h1
                obtain ⟨y, _, h2⟩ := List.mem_map.1 h1
                rw [← h2]
                show (y.1.ps.take 40).length ≤ 256
                rw [List.length_take]; omega
              · show dn.length ≤ 256
                omega
              · show (op.take m3).length ≤ 256
                omega
              · show (nm.extract 0 m1).size ≤ 255
                have := HMM.out.2.1
                rw [ByteArray.size_extract]; omega
              · intro e he
                have h1 : e.1 ∈ dn.map Prod.fst := List.mem_map_of_mem he
                rw [hdm2] at h1
                obtain ⟨y, hy, h2⟩ := List.mem_map.1 h1
                rw [← h2]
                exact (HRX.out.ens y (List.mem_of_mem_take hy)).2.2)
            have HXD := hid (show x.d = ownRo (RoA.d ⟨nm, ep, fl, la, sc, en, ea, ec, op, oa, oc⟩) by
              rw [hx]
              unfold RoA.d ownRo
              simp only
              rw [hdm2, ← HMM.out.2.1, HMM.out.2.2.1, HMM.out.1.1, take_min', HMM.out.2.2.2, HMM.out.1.2, take_min', ← List.map_take, List.map_map]
              rfl)
            have hcx : aR (nm.extract 0 m1) ep fl la sc (.slice C1 k f1) (.slice C2 m3 f2) = (cellsR x).toArray := by
              rw [hx]
              show _ = (cellsR ⟨nm.extract 0 m1, ep, fl, la, sc, dn, C1, f1, op.take m3, C2, f2⟩).toArray
              unfold cellsR
              rw [hdl, hopl]
            obtain ⟨a0, a1, a2, a3, a4, a5, a6⟩ := KR.seven
            have c2 : wr.cell? ⟨w.heap.size + 1 + 1, 0, none⟩ = some (.slice C ns.length f) := K2'.cell 0
            have HW12 := hid (show Below wr.heap.size wr (wr.alloc (.cells (cellsR x).toArray 42)) from (Below.refl _ _).alloc (Nat.le_refl _) _)
            have hnw := new_reads wr 42 7 (cellsR x) rfl
            have hnA := hns.alloc (.cells (cellsR x).toArray 42)
            have HKK := hid (And.intro (And.intro (K1'.alloc (.cells (cellsR x).toArray 42)) (K2'.alloc (.cells (cellsR x).toArray 42))) (And.intro (fun y hy => (hrf y hy).below HW12.out) (HXF.out.below HW12.out)))
            have hsz : w3.heap.size ≤ wr.heap.size + 1 := by omega
            have hnl : ns.length ≤ 9 := by
              have := congrArg List.length HBN.out.2
              unfold ownL at this
              rw [List.length_map, List.length_map, List.length_take] at this
              omega
            have HBW := hid hbq
            rw [← hcx] at hnw hnA HKK HW12
            clear hcx hdl hown hdm hdr hdm2 hopl hne5 KR K1' K2' hns hrf O2' hq hg hbq hx HXF HRX HMM
            go_wp2_with (at_builtin; refine wpList_append_any _ rfl (.tmp 67) (.tmp 69) 22 rfl w3.heap.size 42 i0 (.agg zRow) 7 96 Try.underlying22 HI.out.1 HI.out.2.1 HI.out.2.2.1 HI.out.2.2.2 rfl (by decide) _ ns.length (ns.flatMap cellsR) rfl hnA (some ⟨wr.heap.size, 0, none⟩) 1 1 (cellsR x) rfl hnw (cellsR_one x) (by simp only [maxLen]; omega) (by omega) (by simp; omega) ?_; intro v' w12 hown' hgr' hv'; obtain ⟨C9, f9, hvf, _, _⟩ := own_form hown'; subst hvf; clear hv'; replace hgr' : (wr.alloc (.cells (aR (nm.extract 0 m1) ep fl la sc (.slice C1 k f1) (.slice C2 m3 f2)) 42)).grownBy w12 (Value.slice C ns.length f).ownBlock := hgr'; have K2n := Blk.grown HKK.out.1.2 hgr' (by intro e; have := hnA.lt _ e.symm; omega); have s2 : w12.cell? ⟨w.heap.size + 1 + 1, 0, none⟩ = some (.slice C ns.length f) := K2n.cell 0; have sf : w12.frozen? ⟨w.heap.size + 1 + 1, 0, none⟩ = false := K2n.frozen 0; have sl := K2n.lt)
            have K1n := Blk.grown HKK.out.1.1 hgr' (by intro e; have := hnA.lt _ e.symm; omega)
            have hnx : (ns ++ [x]).length = ns.length + 1 := by simp
            have hcl : ns.flatMap cellsR ++ cellsR x = (ns ++ [x]).flatMap cellsR := by simp
            rw [hcl, ← hnx] at hown'
            have HN := hid (show Blk (w12.setCell ⟨w.heap.size + 1 + 1, 0, none⟩ (.slice C9 (ns ++ [x]).length f9)) (w.heap.size + 1) 24 #[.slice none 0 0] ∧ Blk (w12.setCell ⟨w.heap.size + 1 + 1, 0, none⟩ (.slice C9 (ns ++ [x]).length f9)) (w.heap.size + 1 + 1) 24 #[.slice C9 (ns ++ [x]).length f9] ∧ (w12.setCell ⟨w.heap.size + 1 + 1, 0, none⟩ (.slice C9 (ns ++ [x]).length f9)).ownsRow w3.heap.size 42 7 (.slice C9 (ns ++ [x]).length f9) (ns ++ [x]).length ((ns ++ [x]).flatMap cellsR) ∧ (∀ y ∈ ns ++ [x], RoFr (w12.setCell ⟨w.heap.size + 1 + 1, 0, none⟩ (.slice C9 (ns ++ [x]).length f9)) y) from by
              refine ⟨K1n.far (by simp) _, K2n.set_ 0 _, own_farM hown' (a := ⟨w.heap.size + 1 + 1, 0, none⟩) (by simp; omega) _, fun y hy => RoFr.set ?_ K2n (by decide) _⟩
              rcases List.mem_append.1 hy with hy | hy
              · exact (HKK.out.2.1 y hy).grown hnA hgr'
              · obtain rfl := List.mem_singleton.1 hy
                exact HKK.out.2.2.grown hnA hgr')
            have HB2 := hid (show (Below w.heap.size w (w12.setCell ⟨w.heap.size + 1 + 1, 0, none⟩ (.slice C9 (ns ++ [x]).length f9)) ∧ w3.heap.size ≤ (w12.setCell ⟨w.heap.size + 1 + 1, 0, none⟩ (.slice C9 (ns ++ [x]).length f9)).heap.size) ∧ (ns ++ [x]).map RoA.d = ownL (rows.map RoA.d) (i + 1) from by
              have h1 : Below w.heap.size w wo := HBN.out.1.1
              have h2 := h1.trans (HBW.out.mono h1.size)
              have h3 := h2.trans (HW12.out.mono h2.size)
              have h4 := h3.grown hgr' (by have := h3.size; omega) (fun b hb => by have := hnA.lt b hb; omega)
              refine ⟨⟨h4.setCell (p := ⟨w.heap.size + 1 + 1, 0, none⟩) (by simp; omega) _, ?_⟩, ?_⟩
              · have := hgr'.size
                simp at this
                simp
                omega
              · rw [List.map_append, HBN.out.2, List.map_singleton, HXD.out]
                exact (own_succ HXE.out).symm)
            rw [← hnx]
            clear K1n K2n hown' hgr' hnx hcl HKK HXD HXE HBW HW12 HBN HST s2 sf sl
            generalize ns ++ [x] = ns2 at *
            go_wp2_with fail
            go_roundw
            case rel => exact ⟨i + 1, ns2, C9, f9, by omega, by omega, by go_num, HN, HB2⟩
            case measure => simp [intOf]; omega
    · obtain rfl : i = n := by omega
      have HF := hid (own_fin hst.out.1 hst.out.2.2.1 hst.out.2.2.2 hbn.out.1.1 hs3 (hbn.out.2.trans (own_all (by rw [List.length_map, HLN.out]) hi9)))
      have k2 : wo.cell? ⟨w.heap.size + 1 + 1, 0, none⟩ = some (.slice C ns.length f) := hst.out.2.1.cell 0
      have k1 : wo.cell? ⟨w.heap.size + 1, 0, none⟩ = some (.slice none 0 0) := hst.out.1.cell 0
      have kf : wo.frozen? ⟨w.heap.size + 1, 0, none⟩ = false := hst.out.1.frozen 0
      have kl : w.heap.size + 1 < wo.heap.size := hst.out.1.lt
      have kd := (hst.out.1.set_ 0 (.slice C ns.length f)).cell 0
      clear hst hbn hlt
      go_wp2_with fail
      refine bodyPost_ret (v := .agg #[.slice C ns.length f]) ?_ rfl HF.out
      simp [results, Try.results11, go_sem, kd]
end Go.Proofs.Ytgdnpmjmkcccoaa
namespace Go.Proofs.Ytgdnpmjmkcccoaa
open Go.RowKit Go.Shelf VB
open Go.Lib (hid)
set_option linter.unusedVariables false
set_option linter.unusedSimpArgs false
theorem typed_of_cellO {w : World} {p : Addr} {v : Value} (h : w.cell? p = some v) : ∃ e, Typed w p.block e := by
  unfold World.cell? at h
  split at h
  · rename_i cs e fr he
    exact ⟨e, cs, fr, he⟩
  · cases h
theorem flat_lenO {cells : Nat → List Value} {size : Nat} : ∀ n, (∀ i, i < n → (cells i).length = size) → ((List.range n).flatMap cells).length = n * size := by
  intro n
  induction n with
  | zero => intro _; simp
  | succ n ih =>
    intro hl
    rw [List.range_succ, List.flatMap_append, List.length_append, ih (fun i hi => hl i (by omega)), List.flatMap_singleton, hl n (by omega), Nat.succ_mul]
theorem flat_idx {cells : Nat → List Value} {size : Nat} (hs : 0 < size) : ∀ n, (∀ i, i < n → (cells i).length = size) → ∀ j u, ((List.range n).flatMap cells)[j]? = some u → j / size < n ∧ (cells (j / size))[j % size]? = some u := by
  intro n
  induction n with
  | zero => intro _ j u h; simp at h
  | succ n ih =>
    intro hl j u h
    have hL := flat_lenO (cells := cells) (size := size) n (fun i hi => hl i (by omega))
    rw [List.range_succ, List.flatMap_append, List.flatMap_singleton] at h
    by_cases hj : j < n * size
    · rw [List.getElem?_append_left (by omega)] at h
      have := ih (fun i hi => hl i (by omega)) j u h
      exact ⟨by omega, this.2⟩
    · rw [List.getElem?_append_right (by omega), hL] at h
      have hlt : j - n * size < size := by
        have := (List.getElem?_eq_some_iff.1 h).1
        rw [hl n (by omega)] at this
        exact this
      have hd : j / size = n := by
        rw [show j = (j - n * size) + n * size by omega, Nat.add_mul_div_right _ _ hs, Nat.div_eq_of_lt hlt]; omega
      have hm : j % size = j - n * size := by
        rw [show j = (j - n * size) + n * size by omega, Nat.add_mul_mod_self_right, Nat.mod_eq_of_lt (by omega)]
        omega
      rw [hd, hm]
      exact ⟨by omega, h⟩
theorem reads_of_fn {w : World} {ad : Addr} {n size : Nat} {cells : Nat → List Value} (hs : 0 < size) (hl : ∀ i, i < n → (cells i).length = size) (h : ∀ i, i < n → ∀ j u, (cells i)[j]? = some u → w.cell? (ad.add (i * size + j)) = some u) : ∃ e, Reads w e size (some ad) n ((List.range n).flatMap cells) := by
  rcases Nat.eq_zero_or_pos n with h0 | h0
  · subst h0
    exact ⟨0, by simp, fun h => absurd h (by omega)⟩
  · have hc0 : ∃ u, (cells 0)[0]? = some u := ⟨_, List.getElem?_eq_getElem (by rw [hl 0 h0]; exact hs)⟩
    obtain ⟨u0, hu0⟩ := hc0
    obtain ⟨e, he⟩ := typed_of_cellO (h 0 h0 0 u0 hu0)
    rw [block_of_add] at he
    refine ⟨e, flat_lenO n hl, fun _ => ⟨ad, rfl, he, ?_⟩⟩
    intro j u hu
    obtain ⟨hj, hx⟩ := flat_idx hs n hl j u hu
    have := h _ hj _ u hx
    rwa [Nat.div_add_mod' j size] at this
theorem map_range_len (f : Nat → Int × Int) (n : Nat) : ((List.range n).map f).length = n := by simp
theorem open_pts {H : Type} {enc : TypeId × Value → H} {w : World} {base : Nat} {held : Bool} {fuel : Nat} {v : Value} {x : DataW H × List MemPlace} (h : DataW.trod enc Try.prog w base (fun _ => true) held fuel 40 [v] = some x) :
    ∃ (A : Option Addr) (n c : Nat) (l : List (Int × Int)) (e1 : TypeId), v = .slice A n c ∧ l.length = n ∧ Reads w e1 2 A n (l.flatMap cellsP) ∧ n ≤ c ∧ c ≤ maxLen := by
  rcases Go.Deep.open_slice_pairs Try.underlying40 Try.underlying47 (by kernel_rfl) rfl rfl (by kernel_rfl) (by kernel_rfl) h with ⟨hcs, _⟩ | ⟨a, l, c, m, n, V0, V1, D0, D1, P0, P1, hcs, _, hl, hm, hmm, _, hall⟩
  · simp only [List.cons.injEq, and_true] at hcs
    exact ⟨none, 0, 0, [], 0, hcs, rfl, Reads.none_, Nat.le_refl _, Nat.zero_le _⟩
  · simp only [List.cons.injEq, and_true] at hcs
    rw [if_pos rfl] at hmm
    have h2 : ∀ i, ∃ X : Int × Int, i < l → w.cell? (a.add (i * 2)) = some (.int .i64 X.1) ∧ w.cell? (a.add (i * 2 + 1)) = some (.int .i64 X.2) := by
      intro i
      by_cases hi : i < l
      · obtain ⟨c0, c1, t0, t1⟩ := hall i (by omega)
        obtain ⟨y0, e0, _, _⟩ := DataW.trod_int Try.underlying2 t0
        obtain ⟨y1, e1, _, _⟩ := DataW.trod_int Try.underlying2 t1
        simp only [List.cons.injEq, and_true] at e0 e1
        rw [e0] at c0
        rw [e1] at c1
        exact ⟨(y0, y1), fun _ => ⟨c0, c1⟩⟩
      · exact ⟨(0, 0), fun h => absurd h hi⟩
    obtain ⟨f, hf⟩ := Classical.axiomOfChoice h2
    obtain ⟨e, he⟩ := reads_of_fn (w := w) (ad := a) (n := l) (size := 2) (cells := fun i => cellsP (f i)) (by omega) (fun i _ => rfl) (by
      intro i hi j u hu
      unfold cellsP at hu
      match j with
      | 0 => simp only [List.getElem?_cons_zero, Option.some.injEq] at hu; subst hu; exact (hf i hi).1
      | 1 => simp only [List.getElem?_cons_succ, List.getElem?_cons_zero, Option.some.injEq] at hu; subst hu; exact (hf i hi).2
      | j + 2 => simp at hu)
    refine ⟨some a, l, c, (List.range l).map f, e, hcs, map_range_len f l, ?_, hl, hm⟩
    rw [List.flatMap_map]
    exact he
theorem list1 {α : Type} {l : List α} (h : l.length = 1) : ∃ a0, l = [a0] := by
  match l, h with
  | [a0], _ => exact ⟨a0, rfl⟩
theorem list5 {α : Type} {l : List α} (h : l.length = 5) : ∃ a0 a1 a2 a3 a4, l = [a0, a1, a2, a3, a4] := by
  match l, h with
  | [a0, a1, a2, a3, a4], _ => exact ⟨a0, a1, a2, a3, a4, rfl⟩
theorem list7 {α : Type} {l : List α} (h : l.length = 7) : ∃ a0 a1 a2 a3 a4 a5 a6, l = [a0, a1, a2, a3, a4, a5, a6] := by
  match l, h with
  | [a0, a1, a2, a3, a4, a5, a6], _ => exact ⟨a0, a1, a2, a3, a4, a5, a6, rfl⟩
theorem wf_le {n : Int} (h : (Lit.int .i64 n).wf = true) : n ≤ 9223372036854775807 := by
  rw [Lit.wf_int_iff, IntKind.min_i64, IntKind.max_i64] at h; omega

theorem open_pgs {H : Type} {enc : TypeId × Value → H} {w : World} {base : Nat} {held : Bool} {fuel : Nat} {v : Value} {x : DataW H × List MemPlace} (h : DataW.trod enc Try.prog w base (fun _ => true) held fuel 43 [v] = some x) :
    ∃ (A : Option Addr) (n c : Nat) (l : List Int) (e1 : TypeId), v = .slice A n c ∧ l.length = n ∧ Reads w e1 1 A n (l.map (Value.int .i64)) ∧ n ≤ c ∧ c ≤ maxLen := by
  rcases Go.ChangeShapes.open_ints Try.underlying43 Try.underlying3 (by kernel_rfl) h with ⟨hcs, _⟩ | ⟨a, l, c, zs, hcs, _, hl, hm, hz, _, hcell, hwz⟩
  · simp only [List.cons.injEq, and_true] at hcs
    exact ⟨none, 0, 0, [], 0, hcs, rfl, Reads.none_, Nat.le_refl _, Nat.zero_le _⟩
  · simp only [List.cons.injEq, and_true] at hcs
    simp at hz
    obtain ⟨e, he⟩ := reads_of_fn (w := w) (ad := a) (n := l) (size := 1) (cells := fun i => [Value.int .i64 (zs.getD i 0)]) (by omega) (fun i _ => rfl) (by
      intro i hi j u hu
      match j with
      | 0 =>
        simp only [List.getElem?_cons_zero, Option.some.injEq] at hu
        subst hu
        rw [Nat.mul_one, Nat.add_zero]
        exact hcell i (by omega)
      | j + 1 => simp at hu)
    refine ⟨some a, l, c, (List.range l).map (fun i => zs.getD i 0), e, hcs, by simp, ?_, hl, hm⟩
    have hmap : ((List.range l).map (fun i => zs.getD i 0)).map (Value.int .i64) = (List.range l).flatMap (fun i => [Value.int .i64 (zs.getD i 0)]) := by
      rw [List.map_map]
      induction List.range l with
      | nil => rfl
      | cons x t ih => rw [List.map_cons, List.flatMap_cons, ih]; rfl
    rw [hmap]
    exact he
def EnArg (w : World) (e : EnA) : Prop := (∃ t, Reads w t 1 e.2.1 e.1.ps.length (e.1.ps.map (Value.int .i64))) ∧ (e.1.ps.length ≤ e.2.2 ∧ e.2.2 ≤ maxLen) ∧ e.1.fs ≤ 9223372036854775807
set_option maxRecDepth 100000 in
theorem open_en {H : Type} {enc : TypeId × Value → H} {w : World} {base : Nat} {held : Bool} {fuel : Nat} {cs : List Value} {x : DataW H × List MemPlace} (h : DataW.trod enc Try.prog w base (fun _ => true) held fuel 45 cs = some x) :
    ∃ e : EnA, cs = cellsN e ∧ EnArg w e := by
  obtain ⟨xs, n, _, rfl, hl, hlen, hf⟩ := DataW.trod_struct Try.underlying45 h
  rw [show Try.prog.cellsOf 45 = 5 by kernel_rfl] at hl
  obtain ⟨v0, v1, v2, v3, v4, rfl⟩ := list5 hl
  obtain ⟨y0, y1, y2, y3, y4, rfl⟩ := list5 hlen
  have g0 : DataW.trod enc Try.prog w base (fun _ => true) held n 2 [v0] = some y0 := by
    have h : DataW.trod enc Try.prog w base (fun _ => true) held n 2 (([v0, v1, v2, v3, v4].drop 0).take (Try.prog.cellsOf 2)) = _ := hf 0 _ rfl
    rw [show Try.prog.cellsOf 2 = 1 by kernel_rfl] at h
    exact h
  have g1 : DataW.trod enc Try.prog w base (fun _ => true) held n 2 [v1] = some y1 := by
    have h : DataW.trod enc Try.prog w base (fun _ => true) held n 2 (([v0, v1, v2, v3, v4].drop 1).take (Try.prog.cellsOf 2)) = _ := hf 1 _ rfl
    rw [show Try.prog.cellsOf 2 = 1 by kernel_rfl] at h
    exact h
  have g2 : DataW.trod enc Try.prog w base (fun _ => true) held n 3 [v2] = some y2 := by
    have h : DataW.trod enc Try.prog w base (fun _ => true) held n 3 (([v0, v1, v2, v3, v4].drop 2).take (Try.prog.cellsOf 3)) = _ := hf 2 _ rfl
    rw [show Try.prog.cellsOf 3 = 1 by kernel_rfl] at h
    exact h
  have g3 : DataW.trod enc Try.prog w base (fun _ => true) held n 43 [v3] = some y3 := by
    have h : DataW.trod enc Try.prog w base (fun _ => true) held n 43 (([v0, v1, v2, v3, v4].drop 3).take (Try.prog.cellsOf 43)) = _ := hf 3 _ rfl
    rw [show Try.prog.cellsOf 43 = 1 by kernel_rfl] at h
    exact h
  have g4 : DataW.trod enc Try.prog w base (fun _ => true) held n 3 [v4] = some y4 := by
    have h : DataW.trod enc Try.prog w base (fun _ => true) held n 3 (([v0, v1, v2, v3, v4].drop 4).take (Try.prog.cellsOf 3)) = _ := hf 4 _ rfl
    rw [show Try.prog.cellsOf 3 = 1 by kernel_rfl] at h
    exact h
  obtain ⟨a0, e0, _, hw0⟩ := DataW.trod_int Try.underlying2 g0
  obtain ⟨a1, e1, _, _⟩ := DataW.trod_int Try.underlying2 g1
  obtain ⟨a2, e2, _, _⟩ := DataW.trod_int Try.underlying3 g2
  obtain ⟨A, k, c, l, e, rfl, rfl, hr, h1, h2⟩ := open_pgs g3
  obtain ⟨a4, e4, _, _⟩ := DataW.trod_int Try.underlying3 g4
  simp only [List.cons.injEq, and_true] at e0 e1 e2 e4
  subst e0 e1 e2 e4
  exact ⟨(⟨a0, a1, a2, a4, l⟩, A, c), rfl, ⟨e, hr⟩, ⟨h1, h2⟩, wf_le hw0⟩
set_option maxRecDepth 100000 in
theorem open_ens {H : Type} {enc : TypeId × Value → H} {w : World} {base : Nat} {held : Bool} {fuel : Nat} {v : Value} {x : DataW H × List MemPlace} (h : DataW.trod enc Try.prog w base (fun _ => true) held fuel 39 [v] = some x) :
    ∃ (A : Option Addr) (n c : Nat) (l : List EnA), v = .slice A n c ∧ l.length = n ∧ (∃ e1, Reads w e1 5 A n (l.flatMap cellsN)) ∧ n ≤ c ∧ c ≤ maxLen ∧ ∀ q ∈ l, EnArg w q := by
  rcases Go.Deep.open_slice Try.underlying39 h with ⟨hcs, _⟩ | ⟨a, l, c, m, n, D, Pl, hcs, _, hl, hm, hmm, _, hall⟩
  · simp only [List.cons.injEq, and_true] at hcs
    exact ⟨none, 0, 0, [], hcs, rfl, ⟨0, Reads.none_⟩, Nat.le_refl _, Nat.zero_le _, fun q hq => absurd hq (by simp)⟩
  · simp only [List.cons.injEq, and_true] at hcs
    rw [if_pos rfl] at hmm
    have h2 : ∀ i, ∃ X : EnA, i < l → (∀ j u, (cellsN X)[j]? = some u → w.cell? (a.add (i * 5 + j)) = some u) ∧ EnArg w X := by
      intro i
      by_cases hi : i < l
      · obtain ⟨cs', h1, h2⟩ := hall i (by omega)
        obtain ⟨mu, rfl, hr⟩ := open_en h2
        rw [show Try.prog.cellsOf 45 = 5 by kernel_rfl] at h1
        obtain ⟨_, hlen, hcell⟩ := World.cells?_some h1
        refine ⟨mu, fun _ => ⟨?_, hr⟩⟩
        intro j u hu
        have hj : j < 5 := (List.getElem?_eq_some_iff.1 hu).1
        have := hcell j hj
        rw [add_of_add] at this
        rw [this]
        exact hu
      · exact ⟨(⟨0, 0, 0, 0, []⟩, none, 0), fun h => absurd h hi⟩
    obtain ⟨f, hf⟩ := Classical.axiomOfChoice h2
    obtain ⟨e, he⟩ := reads_of_fn (w := w) (ad := a) (n := l) (size := 5) (cells := fun i => cellsN (f i)) (by omega) (fun i _ => rfl) (fun i hi j u hu => (hf i hi).1 j u hu)
    refine ⟨some a, l, c, (List.range l).map f, hcs, by simp, ⟨e, ?_⟩, hl, hm, ?_⟩
    · rw [List.flatMap_map]
      exact he
    · intro q hq
      obtain ⟨i, hi, rfl⟩ := List.mem_map.1 hq
      exact (hf i (List.mem_range.1 hi)).2

set_option maxRecDepth 100000 in
theorem open_ro {H : Type} {enc : TypeId × Value → H} {w : World} {base : Nat} {held : Bool} {fuel : Nat} {cs : List Value} {x : DataW H × List MemPlace} (h : DataW.trod enc Try.prog w base (fun _ => true) held fuel 42 cs = some x) :
    ∃ r : RoA, cs = cellsR r ∧ RoArg w r := by
  obtain ⟨xs, n, _, rfl, hl, hlen, hf⟩ := DataW.trod_struct Try.underlying42 h
  rw [show Try.prog.cellsOf 42 = 7 by kernel_rfl] at hl
  obtain ⟨v0, v1, v2, v3, v4, v5, v6, rfl⟩ := list7 hl
  obtain ⟨y0, y1, y2, y3, y4, y5, y6, rfl⟩ := list7 hlen
  have g0 : DataW.trod enc Try.prog w base (fun _ => true) held n 9 [v0] = some y0 := by
    have h : DataW.trod enc Try.prog w base (fun _ => true) held n 9 (([v0, v1, v2, v3, v4, v5, v6].drop 0).take (Try.prog.cellsOf 9)) = _ := hf 0 _ rfl
    rw [show Try.prog.cellsOf 9 = 1 by kernel_rfl] at h
    exact h
  have g1 : DataW.trod enc Try.prog w base (fun _ => true) held n 2 [v1] = some y1 := by
    have h : DataW.trod enc Try.prog w base (fun _ => true) held n 2 (([v0, v1, v2, v3, v4, v5, v6].drop 1).take (Try.prog.cellsOf 2)) = _ := hf 1 _ rfl
    rw [show Try.prog.cellsOf 2 = 1 by kernel_rfl] at h
    exact h
  have g2 : DataW.trod enc Try.prog w base (fun _ => true) held n 2 [v2] = some y2 := by
    have h : DataW.trod enc Try.prog w base (fun _ => true) held n 2 (([v0, v1, v2, v3, v4, v5, v6].drop 2).take (Try.prog.cellsOf 2)) = _ := hf 2 _ rfl
    rw [show Try.prog.cellsOf 2 = 1 by kernel_rfl] at h
    exact h
  have g3 : DataW.trod enc Try.prog w base (fun _ => true) held n 2 [v3] = some y3 := by
    have h : DataW.trod enc Try.prog w base (fun _ => true) held n 2 (([v0, v1, v2, v3, v4, v5, v6].drop 3).take (Try.prog.cellsOf 2)) = _ := hf 3 _ rfl
    rw [show Try.prog.cellsOf 2 = 1 by kernel_rfl] at h
    exact h
  have g4 : DataW.trod enc Try.prog w base (fun _ => true) held n 3 [v4] = some y4 := by
    have h : DataW.trod enc Try.prog w base (fun _ => true) held n 3 (([v0, v1, v2, v3, v4, v5, v6].drop 4).take (Try.prog.cellsOf 3)) = _ := hf 4 _ rfl
    rw [show Try.prog.cellsOf 3 = 1 by kernel_rfl] at h
    exact h
  have g5 : DataW.trod enc Try.prog w base (fun _ => true) held n 39 [v5] = some y5 := by
    have h : DataW.trod enc Try.prog w base (fun _ => true) held n 39 (([v0, v1, v2, v3, v4, v5, v6].drop 5).take (Try.prog.cellsOf 39)) = _ := hf 5 _ rfl
    rw [show Try.prog.cellsOf 39 = 1 by kernel_rfl] at h
    exact h
  have g6 : DataW.trod enc Try.prog w base (fun _ => true) held n 40 [v6] = some y6 := by
    have h : DataW.trod enc Try.prog w base (fun _ => true) held n 40 (([v0, v1, v2, v3, v4, v5, v6].drop 6).take (Try.prog.cellsOf 40)) = _ := hf 6 _ rfl
    rw [show Try.prog.cellsOf 40 = 1 by kernel_rfl] at h
    exact h
  obtain ⟨a0, e0, _, _⟩ := DataW.trod_string Try.underlying9 g0
  obtain ⟨a1, e1, _, _⟩ := DataW.trod_int Try.underlying2 g1
  obtain ⟨a2, e2, _, _⟩ := DataW.trod_int Try.underlying2 g2
  obtain ⟨a3, e3, _, _⟩ := DataW.trod_int Try.underlying2 g3
  obtain ⟨a4, e4, _, _⟩ := DataW.trod_int Try.underlying3 g4
  obtain ⟨EA, ek, ec, en, rfl, rfl, her, hec, hem, hens⟩ := open_ens g5
  obtain ⟨OA, ok, oc, op, oe, rfl, rfl, hor, hoc, hom⟩ := open_pts g6
  simp only [List.cons.injEq, and_true] at e0 e1 e2 e3 e4
  subst e0 e1 e2 e3 e4
  exact ⟨⟨a0, a1, a2, a3, a4, en, EA, ec, op, OA, oc⟩, rfl, her, ⟨hec, hem⟩, hens, ⟨oe, hor⟩, ⟨hoc, hom⟩⟩
set_option maxRecDepth 100000 in
theorem open_ros {H : Type} {enc : TypeId × Value → H} {w : World} {base : Nat} {held : Bool} {fuel : Nat} {v : Value} {x : DataW H × List MemPlace} (h : DataW.trod enc Try.prog w base (fun _ => true) held fuel 22 [v] = some x) :
    ∃ (A : Option Addr) (n c : Nat) (l : List RoA), v = .slice A n c ∧ l.length = n ∧ (∃ e1, Reads w e1 7 A n (l.flatMap cellsR)) ∧ n ≤ c ∧ c ≤ maxLen ∧ ∀ q ∈ l, RoArg w q := by
  rcases Go.Deep.open_slice Try.underlying22 h with ⟨hcs, _⟩ | ⟨a, l, c, m, n, D, Pl, hcs, _, hl, hm, hmm, _, hall⟩
  · simp only [List.cons.injEq, and_true] at hcs
    exact ⟨none, 0, 0, [], hcs, rfl, ⟨0, Reads.none_⟩, Nat.le_refl _, Nat.zero_le _, fun q hq => absurd hq (by simp)⟩
  · simp only [List.cons.injEq, and_true] at hcs
    rw [if_pos rfl] at hmm
    have h2 : ∀ i, ∃ X : RoA, i < l → (∀ j u, (cellsR X)[j]? = some u → w.cell? (a.add (i * 7 + j)) = some u) ∧ RoArg w X := by
      intro i
      by_cases hi : i < l
      · obtain ⟨cs', h1, h2⟩ := hall i (by omega)
        obtain ⟨mu, rfl, hr⟩ := open_ro h2
        rw [show Try.prog.cellsOf 42 = 7 by kernel_rfl] at h1
        obtain ⟨_, hlen, hcell⟩ := World.cells?_some h1
        refine ⟨mu, fun _ => ⟨?_, hr⟩⟩
        intro j u hu
        have hj : j < 7 := (List.getElem?_eq_some_iff.1 hu).1
        have := hcell j hj
        rw [add_of_add] at this
        rw [this]
        exact hu
      · exact ⟨⟨⟨#[]⟩, 0, 0, 0, 0, [], none, 0, [], none, 0⟩, fun h => absurd h hi⟩
    obtain ⟨f, hf⟩ := Classical.axiomOfChoice h2
    obtain ⟨e, he⟩ := reads_of_fn (w := w) (ad := a) (n := l) (size := 7) (cells := fun i => cellsR (f i)) (by omega) (fun i _ => rfl) (fun i hi j u hu => (hf i hi).1 j u hu)
    refine ⟨some a, l, c, (List.range l).map f, hcs, by simp, ⟨e, ?_⟩, hl, hm, ?_⟩
    · rw [List.flatMap_map]
      exact he
    · intro q hq
      obtain ⟨i, hi, rfl⟩ := List.mem_map.1 hq
      exact (hf i (List.mem_range.1 hi)).2

set_option maxRecDepth 100000 in
theorem open_man {H : Type} {enc : TypeId × Value → H} {w : World} {r : Reach} {b0 base : Nat} {held : Bool} {v : Value} {d : DataW H} {p : List MemPlace} (hv : Value.okWide Try.prog w r b0 24 v) (h : DataW.Trod enc Try.prog w base (fun _ => true) held 24 v d p) :
    ∃ (A : Option Addr) (n c : Nat) (l : List RoA), v = .agg #[.slice A n c] ∧ MArg w A n c l := by
  obtain ⟨cs0, rfl, hsz⟩ := Go.WideShapes.okWide_struct Try.underlying24 hv
  obtain ⟨fuel, h⟩ := h
  obtain ⟨q⟩ := cs0
  simp only [Value.cells] at h
  obtain ⟨xs, n, _, hq, hl, hlen, hf⟩ := DataW.trod_struct Try.underlying24 h
  rw [show Try.prog.cellsOf 24 = 1 by kernel_rfl] at hl
  obtain ⟨v0, rfl⟩ := list1 hl
  obtain ⟨y0, rfl⟩ := list1 hlen
  have g0 : DataW.trod enc Try.prog w base (fun _ => true) held n 22 [v0] = some y0 := by
    have h : DataW.trod enc Try.prog w base (fun _ => true) held n 22 (([v0].drop 0).take (Try.prog.cellsOf 22)) = _ := hf 0 _ rfl
    rw [show Try.prog.cellsOf 22 = 1 by kernel_rfl] at h
    exact h
  obtain ⟨A, k, c, l, rfl, hl2, hr, h1, h2, h3⟩ := open_ros g0
  exact ⟨A, k, c, l, rfl, hr, h3, h1, h2⟩
end Go.Proofs.Ytgdnpmjmkcccoaa
namespace Go.Proofs.Ytgdnpmjmkcccoaa
open Go.RowKit Go.Shelf VB
open Go.Lib (hid)
set_option linter.unusedVariables false
set_option linter.unusedSimpArgs false
theorem MArg.below {w w' : World} {A : Option Addr} {n c : Nat} {l : List RoA} (h : MArg w A n c l) (hb : Below w.heap.size w w') : MArg w' A n c l :=
  ⟨h.rows.elim fun e k => ⟨e, k.below hb⟩, fun x hx => (h.each x hx).below hb, h.hn, h.hc⟩
theorem vbI_byte (z : Int) : ∀ x ∈ vbI z, x < 256 := vb_byte _
theorem entB_byte (ah : Int) (e : En) : ∀ x ∈ entB ah e, x < 256 := by
  intro x hx
  unfold entB at hx
  rcases List.mem_append.1 hx with hx | hx
  · obtain ⟨z, _, h⟩ := List.mem_flatMap.1 hx; exact vbI_byte z x h
  · obtain ⟨z, _, h⟩ := List.mem_flatMap.1 hx; exact vbI_byte z x h
theorem ensB_byte : ∀ (l : List En) (ah : Int), ∀ x ∈ ensB ah l, x < 256
  | [], _, x, hx => by simp [ensB] at hx
  | e :: l, ah, x, hx => by
    unfold ensB at hx
    rcases List.mem_append.1 hx with hx | hx
    · exact entB_byte _ _ x hx
    · exact ensB_byte l _ x hx
theorem ptsB2_byte : ∀ (l : List (Int × Int)) (was : Int × Int), ∀ x ∈ ptsB2 was l, x < 256
  | [], _, x, hx => by simp [ptsB2] at hx
  | p :: l, was, x, hx => by
    unfold ptsB2 ptB2 at hx
    rcases List.mem_append.1 hx with hx | hx
    · rcases List.mem_append.1 hx with hx | hx
      · obtain ⟨z, _, h⟩ := List.mem_flatMap.1 hx; exact vbI_byte z x h
      · exact vb_byte _ x hx
    · exact ptsB2_byte l _ x hx
theorem rowBy_byte {r : Ro} (h : RowOk r) : ∀ x ∈ rowBy r, x < 256 := by
  intro x hx
  have hn := h.fit.nm
  have hfm : ∀ l : List Int, ∀ x ∈ l.flatMap vbI, x < 256 := fun l x hx => by obtain ⟨z, _, h⟩ := List.mem_flatMap.1 hx; exact vbI_byte z x h
  unfold rowBy at hx
  simp only [List.mem_append] at hx
  rcases hx with hx | hx | hx | hx | hx | hx | hx
  · rcases List.mem_cons.1 hx with rfl | hx
    · omega
    · unfold nmL at hx
      obtain ⟨b, _, rfl⟩ := List.mem_map.1 hx
      exact b.toNat_lt
  · exact hfm _ x hx
  · exact vb_byte _ x hx
  · exact hfm _ x hx
  · exact ensB_byte _ _ x hx
  · exact hfm _ x hx
  · exact ptsB2_byte _ _ x hx
theorem manBy_byte {l : List Ro} (h : ManOk l) : ∀ x ∈ manBy l, x < 256 := by
  intro x hx
  unfold manBy at hx
  rcases List.mem_append.1 hx with hx | hx
  · obtain ⟨z, _, h⟩ := List.mem_flatMap.1 hx; exact vbI_byte z x h
  · obtain ⟨r, hr, hx⟩ := List.mem_flatMap.1 hx; exact rowBy_byte (h.rows r hr) x hx
/-- what Encode hands back for a manifest that may be -/
def RetEncR (l : List Nat) (n : Nat) (w : World) (e : Ending) (w' : World) : Prop :=
  ∃ C f, e = .returned (.tuple #[.slice C n f, .int .i64 0]) ∧ Below w.heap.size w w' ∧ Reads w' 5 1 C n (bsV l) ∧ n ≤ f ∧ f ≤ maxLen
def RetEncW (w : World) (e : Ending) (w' : World) : Prop := e = .returned (.tuple #[.slice none 0 0, .int .i64 320]) ∧ Below w.heap.size w w'
theorem encM_right {l : List Ro} {w w' : World} {e : Ending} (h : RetEnc l w e w') (ho : manOk l = true) {n : Nat} (hn : (manBy l).length = n) : RetEncR (manBy l) n w e w' := by
  unfold RetEnc at h
  rw [if_pos ho, hn] at h
  obtain ⟨C, f, he, hb, ho⟩ := h
  unfold OwnY at hb
  rw [hn] at hb
  obtain ⟨_, _, hv, hf1, hf2⟩ := own_form hb
  injection hv with hv1 hv2 hv3
  exact ⟨C, f, he, ho, Reads.of_own hb, by omega, by omega⟩
theorem encM_wrong {l : List Ro} {w w' : World} {e : Ending} (h : RetEnc l w e w') (ho : manOk l = false) : RetEncW w e w' := by
  unfold RetEnc at h
  rw [if_neg (by rw [ho]; decide)] at h
  exact h
theorem not_preM {a b : List Ro} (ha : ManOk a) (hb : ManOk b) (ob : manOk b = true) (hne : ¬ a = b) {n : Nat} (hn : n = (manBy a).length) : decide ((manBy b).take n = manBy a) = false :=
  decide_eq_false fun h => hne (man_free (r := (manBy b).drop n) ha hb ob (by rw [← h, List.take_append_drop]))
theorem src_of {w : World} {C : Option Addr} {n f : Nat} {l : List Nat} (h : Reads w 5 1 C n (bsV l)) (h1 : n ≤ f) (h2 : f ≤ maxLen) (hl : n ≤ 1000000) (hb : ∀ x ∈ l, x < 256) : Src w C n f l := ⟨h, hl, h1, h2, hb⟩
theorem ownN {l : List Ro} {w w' : World} {e : Ending} (h : RetOwn22 l w e w') : ∃ (ns : List RoA) (k : Nat) (C : Option Addr) (f : Nat), ns.map RoA.d = ownL l 9 ∧ e = .returned (.agg #[.slice C k f]) ∧ ManIn w' C k f ns ∧ Below w.heap.size w w' ∧ (w'.ownsRow w.heap.size 42 7 (.slice C k f) k (ns.flatMap cellsR) ∧ ∀ x ∈ ns, RoFr w' x) ∧ k ≤ 9 := by
  obtain ⟨ns, C, f, h1, h2, h3, h4, h5⟩ := h
  have hl : ns.length ≤ 9 := by
    have := congrArg List.length h1
    unfold ownL at this
    rw [List.length_map, List.length_map, List.length_take] at this
    omega
  exact ⟨ns, ns.length, C, f, h1, h2, ⟨⟨_, Reads.of_own h3⟩, fun x hx => (h4 x hx).inn, by omega⟩, h5, ⟨h3, h4⟩, hl⟩
end Go.Proofs.Ytgdnpmjmkcccoaa
namespace Go.Proofs.Ytgdnpmjmkcccoaa
set_option linter.unusedVariables false
set_option linter.unusedSimpArgs false
/-- the pages that come for the first time -/
def firsts : List Int → List Int → List Int
  | _, [] => []
  | L, p :: ps => if p ∈ L then firsts (p :: L) ps else p :: firsts (p :: L) ps
theorem firsts_snoc (p : Int) : ∀ (ps L : List Int), firsts L (ps ++ [p]) = firsts L ps ++ (if p ∈ ps.reverse ++ L then [] else [p])
  | [], L => by by_cases h : p ∈ L <;> simp [firsts, h]
  | q :: ps, L => by
    have ih := firsts_snoc p ps (q :: L)
    have e : p ∈ ps.reverse ++ q :: L ↔ p ∈ (q :: ps).reverse ++ L := by simp
    rw [List.cons_append, firsts, firsts, ih]
    simp only [e]
    split <;> simp
theorem firsts_len : ∀ (ps L : List Int), (firsts L ps).length ≤ ps.length
  | [], _ => Nat.le_refl _
  | q :: ps, L => by
    have ih := firsts_len ps (q :: L)
    rw [firsts]
    split <;> simp <;> omega
theorem mem_firsts : ∀ (ps L : List Int) (x : Int), x ∈ firsts L ps ↔ x ∈ ps ∧ x ∉ L
  | [], L, x => by simp [firsts]
  | q :: ps, L, x => by
    have ih := mem_firsts ps (q :: L) x
    rw [firsts]
    by_cases hq : q ∈ L
    · rw [if_pos hq, ih, List.mem_cons, List.mem_cons, not_or]
      constructor
      · rintro ⟨h1, h2, h3⟩
        exact ⟨.inr h1, h3⟩
      · rintro ⟨rfl | h1, h3⟩
        · exact absurd hq h3
        · exact ⟨h1, fun e => h3 (e ▸ hq), h3⟩
    · rw [if_neg hq, List.mem_cons, ih, List.mem_cons, List.mem_cons, not_or]
      constructor
      · rintro (rfl | ⟨h1, h2, h3⟩)
        · exact ⟨.inl rfl, hq⟩
        · exact ⟨.inr h1, h3⟩
      · rintro ⟨rfl | h1, h3⟩
        · exact .inl rfl
        · by_cases e : x = q
          · exact .inl e
          · exact .inr ⟨h1, e, h3⟩
theorem nodup_firsts : ∀ (ps L : List Int), (firsts L ps).Nodup
  | [], _ => by simp [firsts]
  | q :: ps, L => by
    have ih := nodup_firsts ps (q :: L)
    rw [firsts]
    split
    · exact ih
    · refine List.nodup_cons.2 ⟨fun h => ?_, ih⟩
      exact ((mem_firsts _ _ _).1 h).2 List.mem_cons_self
/-- a rising row with a number, once -/
def putN : List Int → Int → List Int
  | [], n => [n]
  | x :: l, n => if n < x then n :: x :: l else if n = x then x :: l else x :: putN l n
def allPut (ps : List Int) : List Int := ps.foldl putN []
abbrev Up (l : List Int) : Prop := l.Pairwise (· < ·)
theorem mem_put (n : Int) : ∀ (l : List Int) (y : Int), y ∈ putN l n ↔ y = n ∨ y ∈ l
  | [], y => by simp [putN]
  | x :: l, y => by
    have ih := mem_put n l y
    unfold putN
    split
    · simp
    · split
      · rename_i h; subst h; simp
      · simp only [List.mem_cons, ih]
        constructor
        · rintro (h | h | h)
          · exact .inr (.inl h)
          · exact .inl h
          · exact .inr (.inr h)
        · rintro (h | h | h)
          · exact .inr (.inl h)
          · exact .inl h
          · exact .inr (.inr h)
theorem up_put (n : Int) : ∀ (l : List Int), Up l → Up (putN l n)
  | [], _ => by simp [putN, Up]
  | x :: l, h => by
    have hc := List.pairwise_cons.1 h
    unfold putN
    split
    · rename_i hl
      refine List.pairwise_cons.2 ⟨fun y hy => ?_, h⟩
      rcases List.mem_cons.1 hy with rfl | hy
      · exact hl
      · exact Int.lt_trans hl (hc.1 y hy)
    · rename_i h1
      split
      · exact h
      · rename_i h2
        refine List.pairwise_cons.2 ⟨fun y hy => ?_, up_put n l hc.2⟩
        rcases (mem_put n l y).1 hy with rfl | hy
        · omega
        · exact hc.1 y hy
theorem up_all : ∀ (ps l : List Int), Up l → Up (ps.foldl putN l) ∧ ∀ y, y ∈ ps.foldl putN l ↔ y ∈ l ∨ y ∈ ps
  | [], l, h => by simp [h]
  | p :: ps, l, h => by
    obtain ⟨h1, h2⟩ := up_all ps (putN l p) (up_put p l h)
    refine ⟨h1, fun y => ?_⟩
    rw [List.foldl_cons, h2, mem_put, List.mem_cons]
    constructor
    · rintro ((h | h) | h)
      · exact .inr (.inl h)
      · exact .inl h
      · exact .inr (.inr h)
    · rintro (h | h | h)
      · exact .inl (.inr h)
      · exact .inl (.inl h)
      · exact .inr h
theorem up_ext : ∀ (a b : List Int), Up a → Up b → (∀ y, y ∈ a ↔ y ∈ b) → a = b
  | [], [], _, _, _ => rfl
  | [], y :: b, _, _, h => by have := (h y).2 List.mem_cons_self; cases this
  | x :: a, [], _, _, h => by have := (h x).1 List.mem_cons_self; cases this
  | x :: a, y :: b, ha, hb, h => by
    have ca := List.pairwise_cons.1 ha
    have cb := List.pairwise_cons.1 hb
    have e : x = y := by
      rcases List.mem_cons.1 ((h x).1 List.mem_cons_self) with e | e
      · exact e
      · rcases List.mem_cons.1 ((h y).2 List.mem_cons_self) with e2 | e2
        · exact e2.symm
        · have := ca.1 y e2
          have := cb.1 x e
          omega
    subst e
    refine congrArg _ (up_ext a b ca.2 cb.2 fun z => ?_)
    constructor
    · intro hz
      rcases List.mem_cons.1 ((h z).1 (List.mem_cons_of_mem _ hz)) with e | e
      · have := ca.1 z hz; omega
      · exact e
    · intro hz
      rcases List.mem_cons.1 ((h z).2 (List.mem_cons_of_mem _ hz)) with e | e
      · have := cb.1 z hz; omega
      · exact e
abbrev sortI (l : List Int) : List Int := l.mergeSort fun x y => decide (x ≤ y)
theorem sort_put (ps : List Int) : sortI (firsts [] ps) = allPut ps := by
  obtain ⟨h1, h2⟩ := up_all ps [] List.Pairwise.nil
  have hs : (sortI (firsts [] ps)).Pairwise (fun x y => x ≤ y) := by
    have := List.pairwise_mergeSort (le := fun x y : Int => decide (x ≤ y)) (fun a b c h k => by simp only [decide_eq_true_eq] at h k ⊢; omega) (fun a b => by simp; omega) (firsts [] ps)
    exact this.imp (fun h => by simpa using h)
  have hp := List.mergeSort_perm (firsts [] ps) (fun x y : Int => decide (x ≤ y))
  have hn : (sortI (firsts [] ps)).Nodup := hp.nodup_iff.2 (nodup_firsts _ _)
  refine up_ext _ _ ?_ h1 fun y => ?_
  · have := hs.and hn
    exact this.imp (fun {a b} h => by have h1 := h.1; have h2 := h.2; omega)
  · show y ∈ sortI _ ↔ y ∈ ps.foldl putN []
    rw [h2, hp.mem_iff, mem_firsts]
    simp
end Go.Proofs.Ytgdnpmjmkcccoaa
namespace Go.Proofs.Ytgdnpmjmkcccoaa
open Go.RowKit Go.Shelf VB
open Go.Lib (hid)
set_option linter.unusedVariables false
set_option linter.unusedSimpArgs false
attribute [local go_sem] Oper.semAt_some
/-- a row of entries, where it lies, and what it could hold -/
abbrev Rw := List EnA × Option Addr × Nat
def cellW (x : Rw) : Value := .slice x.2.1 x.1.length x.2.2
abbrev allP (L : List Rw) : List Int := L.flatMap fun x => pgsA x.1
structure PgIn (w : World) (A : Option Addr) (n c : Nat) (L : List Rw) : Prop where
  rows : ∃ e, Reads w e 1 A n (L.map cellW)
  each : ∀ x ∈ L, (∃ e, Reads w e 5 x.2.1 x.1.length (x.1.flatMap cellsN)) ∧ EnsIn w x.1 ∧ x.1.length ≤ 50000
  hn : n ≤ 16
theorem PgIn.below {w w' : World} {A : Option Addr} {n c : Nat} {L : List Rw} (h : PgIn w A n c L) (hb : Below w.heap.size w w') : PgIn w' A n c L :=
  ⟨h.rows.elim fun e k => ⟨e, k.below hb⟩, fun x hx => ⟨(h.each x hx).1.elim fun e k => ⟨e, k.below hb⟩, (h.each x hx).2.1.below hb, (h.each x hx).2.2⟩, h.hn⟩
theorem PgIn.len {w : World} {A : Option Addr} {n c : Nat} {L : List Rw} (h : PgIn w A n c L) : L.length = n := by
  obtain ⟨e, h⟩ := h.rows
  simpa using h.1
theorem PgIn.total {w : World} {A : Option Addr} {n c : Nat} {L : List Rw} (h : PgIn w A n c L) : (allP L).length ≤ 80000000000 := by
  have hl := h.len
  have hn := h.hn
  have h1 : ∀ l : List EnA, EnsIn w l → (pgsA l).length ≤ l.length * 100000 := by
    intro l
    induction l with
    | nil => intro _; simp [pgsA]
    | cons x l ih =>
      intro h
      have a := (h x List.mem_cons_self).2
      have b := ih (fun y hy => h y (List.mem_cons_of_mem _ hy))
      unfold pgsA at b ⊢
      rw [List.flatMap_cons, List.length_append, List.length_cons]
      omega
  have h2 : ∀ l : List Rw, (∀ x ∈ l, EnsIn w x.1 ∧ x.1.length ≤ 50000) → (allP l).length ≤ l.length * 5000000000 := by
    intro l
    induction l with
    | nil => intro _; simp [allP]
    | cons x l ih =>
      intro h
      have a := h x List.mem_cons_self
      have c := h1 x.1 a.1
      have b := ih (fun y hy => h y (List.mem_cons_of_mem _ hy))
      unfold allP at b ⊢
      rw [List.flatMap_cons, List.length_append, List.length_cons]
      omega
  have := h2 L (fun x hx => (h.each x hx).2)
  omega
theorem allP_app (a b : List Rw) : allP (a ++ b) = allP a ++ allP b := List.flatMap_append
theorem pgsA_app (a b : List EnA) : pgsA (a ++ b) = pgsA a ++ pgsA b := List.flatMap_append
set_option maxHeartbeats 400000 in
theorem pages_c (A : Option Addr) (n c : Nat) (w : World) :
    Calls Try.prog 62 #[.slice A n c] w fun e w' => e = .returned (.func (.func 99) #[] #[.pointer (some ⟨w.heap.size, 0, none⟩)]) ∧ w' = w.alloc (.cells #[.slice A n c] 56) := by
  go_enter Try.func62, Try.ntmps62
  go_wp2
  go_ret
  exact ⟨rfl, rfl⟩
theorem enters_pg : ∀ args w, (callFunc 99 args).run Try.prog w = .ok (.enter 99 args) w := enters_of Try.func99 (by kernel_rfl) rfl
set_option maxRecDepth 100000 in
set_option maxHeartbeats 2000000 in
theorem pg_in (n l : Nat) (B : Nat) (A : Option Addr) (m c : Nat) (L : List Rw) (n₀ : Nat) (w0 : World) (hm : PgIn w0 A m c L) (hn0 : n₀ = w0.heap.size) (J Jx : List Int → World → Prop)
    (W : World) (hW : Below n₀ w0 W) (hJ : AbidesFrom W.heap.size J)
    (hY : ∀ pre x W1, J pre W1 → (pre ++ [x]) <+: allP L → YieldAt Fence.wide (n - 1) Try.prog l #[.int .i64 x] W1 fun e W' =>
      (e = .returned (.bool true) ∧ J (pre ++ [x]) W' ∧ Below n₀ W1 W') ∨ (e = .returned (.bool false) ∧ Jx (pre ++ [x]) W'))
    (hB : W.cell? ⟨B, 0, none⟩ = some (.slice A m c)) (h0 : J [] W) :
    CallsIn Fence.wide n Try.prog 99 #[.func (.yield l) #[] #[], .pointer (some ⟨B, 0, none⟩)] W fun e W' => (∃ v, e = .returned v) ∧
      ((∃ ys, ys = allP L ∧ J ys W') ∨ (∃ pre, pre <+: allP L ∧ Jx pre W')) := by
  refine callsIn_of_wp Try.func99 rfl trivial ?_ rfl
  simp only [Try.ntmps99, List.size_toArray, List.length_cons, List.length_nil, Nat.reduceAdd, Nat.reduceSub, Array.replicate_succ, Array.replicate_zero, List.push_toArray, List.append_toArray, List.nil_append, List.cons_append]
  have HM := hid hm
  have HY := hid hY
  have HJ := hid hJ
  have HWB := hid hW
  have H0 := hid h0
  have HLN := hid hm.len
  have HN0 := hid hn0
  have hmm := hm.hn
  clear hm hY hJ hW h0 hn0
  gi_wp2
  gi_loopw [11] (fun u wr => ∃ k : Nat, k ≤ m ∧ u = .int .i64 (k : Nat) ∧ Hid (J (allP (L.take k)) wr) ∧ Below n₀ w0 wr) (fun u _ => m - (intOf u).toNat)
  case atStart => exact ⟨0, Nat.zero_le _, rfl, H0, HWB.out⟩
  case round =>
    obtain ⟨k, hk, rfl, hJs, hb⟩ := hrel
    have hsz : n₀ ≤ wr.heap.size := by rw [HN0.out]; exact hb.size
    by_cases hlt : k < m
    · obtain ⟨er, hrw⟩ := (HM.out.below (by rw [← HN0.out]; exact hb)).rows
      obtain ⟨ad, u, rfl, hu, cu⟩ := hrw.at_ hlt
      have hxl : k < L.length := by have := HLN.out; omega
      rw [List.getElem?_map, List.getElem?_eq_getElem hxl] at hu
      obtain ⟨x, hx⟩ : ∃ x, x = L[k] := ⟨_, rfl⟩
      rw [← hx] at hu
      injection hu with hu
      subst hu
      have htk : L.take (k + 1) = L.take k ++ [x] := by
        rw [List.take_succ_eq_append_getElem hxl, hx]
      have hal : allP (L.take (k + 1)) = allP (L.take k) ++ pgsA x.1 := by rw [htk, allP_app]; simp [allP]
      have HAL := hid hal
      have HXM := hid (show x ∈ L by rw [hx]; exact List.getElem_mem hxl)
      have henl := (HM.out.each x HXM.out).2.2
      have hltI : (k : Int) < (m : Int) := by omega
      have h0I : (0 : Int) ≤ (k : Int) := by omega
      obtain ⟨en, ea, ec⟩ := x
      obtain ⟨q, hq⟩ : ∃ q, q = en.length := ⟨_, rfl⟩
      replace cu : wr.cell? (ad.add k) = some (.slice ea q ec) := by rw [hq]; exact cu
      replace henl : q ≤ 50000 := by rw [hq]; exact henl
      have HQ := hid hq
      have HJN := hid (show J (allP (L.take k) ++ pgsA (en.take 0)) wr by simpa [pgsA] using hJs.out)
      have HBN := hid hb
      clear hrw hx htk hal hq hb hJs hxl
      gi_wp2
      obtain ⟨wo, rfl⟩ : ∃ wo : World, wo = wr := ⟨_, rfl⟩
      clear cu
      gi_loopw [17] (fun u wi => ∃ j : Nat, j ≤ q ∧ u = .int .i64 (j : Nat) ∧ Hid (J (allP (L.take k) ++ pgsA (en.take j)) wi) ∧ Below n₀ w0 wi) (fun u _ => q - (intOf u).toNat)
      case atStart => exact ⟨0, Nat.zero_le _, rfl, HJN, HBN.out⟩
      case round =>
        obtain ⟨j, hj, rfl, hJi, hbi⟩ := hrel
        have hszi : n₀ ≤ wr.heap.size := by rw [HN0.out]; exact hbi.size
        by_cases hjq : j < q
        · have hri := ((HM.out.below (by rw [← HN0.out]; exact hbi)).each _ HXM.out)
          obtain ⟨⟨ei, hen⟩, hens, _⟩ := hri
          simp only at hen hens
          rw [← HQ.out] at hen
          obtain ⟨ed, y, hea, hy, hyl, d0, d1, d2, d3, d4⟩ := en_at hen hjq
          have htj : en.take (j + 1) = en.take j ++ [y] := by
            rw [List.take_succ_eq_append_getElem hyl, (List.getElem?_eq_some_iff.1 hy).2]
          have hpj : pgsA (en.take (j + 1)) = pgsA (en.take j) ++ y.1.ps := by rw [htj, pgsA_app]; simp [pgsA]
          have HPJ := hid hpj
          have HYM := hid (List.mem_of_getElem? hy)
          obtain ⟨⟨fs, ls, ct, by_, ps⟩, pa, pc⟩ := y
          simp only at d0 d1 d2 d3 d4 hpj
          have HPJ := hid hpj
          have hpn : ps.length ≤ 100000 := (hens _ HYM.out).2
          have hpre : ∀ i, (allP (L.take k) ++ pgsA (en.take j)) ++ ps.take i <+: allP L := by
            intro i
            have h2 : allP (L.take (k + 1)) <+: allP L := ⟨allP (L.drop (k + 1)), by rw [← allP_app, List.take_append_drop]⟩
            rw [HAL.out] at h2
            refine List.IsPrefix.trans ?_ h2
            rw [List.append_assoc]
            refine (List.prefix_append_right_inj _).2 ?_
            have h3 : pgsA (en.take (j + 1)) <+: pgsA en := ⟨pgsA (en.drop (j + 1)), by rw [← pgsA_app, List.take_append_drop]⟩
            rw [hpj] at h3
            exact ((List.prefix_append_right_inj _).2 (List.take_prefix _ _)).trans h3
          have HPRE := hid hpre
          have HP0 := hid (show J ((allP (L.take k) ++ pgsA (en.take j)) ++ ps.take 0) (wr.alloc (.cells #[.int .i64 fs, .int .i64 ls, .int .i64 ct, .slice pa ps.length pc, .int .i64 by_] 45)) by
            rw [List.take_zero, List.append_nil]; exact abides_alloc HJ.out _ hJi.out)
          have HBA := hid (hbi.alloc hszi (.cells #[.int .i64 fs, .int .i64 ls, .int .i64 ct, .slice pa ps.length pc, .int .i64 by_] 45))
          have hji : (j : Int) < (q : Int) := by omega
          have hj0 : (0 : Int) ≤ (j : Int) := by omega
          obtain ⟨r, hr⟩ : ∃ r, r = ps.length := ⟨_, rfl⟩
          rw [← hr] at d3 hpn HBA HP0
          have HR := hid hr
          clear hens hen hy hyl htj hpj hpre hJi hbi hr
          subst hea
          gi_wp2
          obtain ⟨wo2, rfl⟩ : ∃ wo2 : World, wo2 = wr := ⟨_, rfl⟩
          clear d0 d1 d2 d3 d4
          gi_loopw [24] (fun u wi => ∃ i : Nat, i ≤ r ∧ u = .int .i64 (i : Nat) ∧ Hid (J ((allP (L.take k) ++ pgsA (en.take j)) ++ ps.take i) wi) ∧ Below n₀ w0 wi) (fun u _ => r - (intOf u).toNat)
          case atStart => exact ⟨0, Nat.zero_le _, rfl, HP0, HBA.out⟩
          case round =>
            obtain ⟨i, hi, rfl, hJp, hbp⟩ := hrel
            have hszp : n₀ ≤ wr.heap.size := by rw [HN0.out]; exact hbp.size
            by_cases hir : i < r
            · obtain ⟨ep, hpr⟩ := (((HM.out.below (by rw [← HN0.out]; exact hbp)).each _ HXM.out).2.1 _ HYM.out).1
              simp only at hpr
              rw [← HR.out] at hpr
              obtain ⟨pd, v, rfl, hv, cv⟩ := hpr.at_ hir
              have hil : i < ps.length := by have := HR.out; omega
              rw [List.getElem?_map, List.getElem?_eq_getElem hil] at hv
              obtain ⟨p, hp⟩ : ∃ p, p = ps[i] := ⟨_, rfl⟩
              rw [← hp] at hv
              injection hv with hv
              subst hv
              have hti : ps.take (i + 1) = ps.take i ++ [p] := by rw [List.take_succ_eq_append_getElem hil, hp]
              have hpx : ((allP (L.take k) ++ pgsA (en.take j)) ++ ps.take i) ++ [p] <+: allP L := by
                have := HPRE.out (i + 1)
                rw [hti, ← List.append_assoc] at this
                exact this
              obtain ⟨fn, tmps, assign, body, hyy, hRR⟩ := HY.out _ p _ hJp.out hpx
              have HTI := hid (show ((allP (L.take k) ++ pgsA (en.take j)) ++ ps.take i) ++ [p] = (allP (L.take k) ++ pgsA (en.take j)) ++ ps.take (i + 1) by rw [hti]; simp only [List.append_assoc])
              have HRR := hid hRR
              have HPX := hid hpx
              have HBP := hid hbp
              have hii : (i : Int) < (r : Int) := by omega
              have hi0 : (0 : Int) ≤ (i : Int) := by omega
              clear hpr hti hpx hRR hJp hbp hil hp
              gi_wp2
              refine ⟨fun h => absurd h (by simp [Fence.wide]), HRR.out.mono ?_⟩
              rintro e W3 (⟨rfl, hJ3, hk3⟩ | ⟨rfl, hJx3⟩)
              · have HN := hid (show J ((allP (L.take k) ++ pgsA (en.take j)) ++ ps.take (i + 1)) W3 by rw [← HTI.out]; exact hJ3)
                have HB3 := hid (HBP.out.trans hk3)
                clear hJ3 hk3 hyy cv
                gi_wp2
                go_roundw
                case rel => exact ⟨i + 1, by omega, by go_num, HN, HB3.out⟩
                case measure => simp [intOf]; omega
              · have HN := hid (show ∃ pre, pre <+: allP L ∧ Jx pre W3 from ⟨_, HPX.out, hJx3⟩)
                clear hJx3 hyy cv
                gi_wp2
                refine bodyPost_ret (results_none rfl _ _ _) rfl ?_
                exact ⟨⟨_, rfl⟩, .inr HN.out⟩
            · obtain rfl : i = r := by omega
              have HN := hid (show J (allP (L.take k) ++ pgsA (en.take (j + 1))) wr by
                have h := hJp.out
                rw [List.take_of_length_le (Nat.le_of_eq HR.out.symm)] at h
                rw [HPJ.out, ← List.append_assoc]; exact h)
              have HBI := hid hbp
              clear hJp hbp
              gi_wp2
              go_roundw
              case rel => exact ⟨j + 1, by omega, by go_num, HN, HBI.out⟩
              case measure => simp [intOf]; omega
        · obtain rfl : j = q := by omega
          have HN := hid (show J (allP (L.take (k + 1))) wr by
            have h := hJi.out
            rw [List.take_of_length_le (Nat.le_of_eq HQ.out.symm)] at h
            rw [HAL.out]; exact h)
          have HBI := hid hbi
          clear hJi hbi
          gi_wp2
          go_roundw
          case rel => exact ⟨k + 1, by omega, by go_num, HN, HBI.out⟩
          case measure => simp [intOf]; omega
    · obtain rfl : k = m := by omega
      have HF := hid (show J (allP L) wr by
        have h := hJs.out
        rw [List.take_of_length_le (Nat.le_of_eq HLN.out)] at h
        exact h)
      clear hJs hb
      gi_wp2
      go_end0
      exact ⟨⟨_, rfl⟩, .inl ⟨_, rfl, HF.out⟩⟩
theorem pg_stops (n B : Nat) (A : Option Addr) (m c : Nat) (L : List Rw) (w0 : World) (hm : PgIn w0 A m c L) (W0 : World) (hW0 : Below w0.heap.size w0 W0) (hB : Boxed W0 B 56 (.slice A m c)) :
    SeqStopsK Fence.wide n Try.prog 99 #[.pointer (some ⟨B, 0, none⟩)] (fun x : Int => #[.int .i64 x]) (Below w0.heap.size) (fun ys => ys = allP L) (fun pre => pre <+: allP L) (allP L).length W0 := by
  intro l J Jx W hW hJ hJx hY h0
  refine pg_in n l B A m c L w0.heap.size w0 hm rfl J Jx W (hW0.trans (hW.mono hW0.size)) hJ ?_ ((hW.cell (p := ⟨B, 0, none⟩) hB.lt).trans hB.cell) h0
  intro pre x W1 hj hpre
  exact hY pre x W1 hj (by have := hpre.length_le; rw [List.length_append, List.length_singleton] at this; omega)
end Go.Proofs.Ytgdnpmjmkcccoaa
namespace Go.Proofs.Ytgdnpmjmkcccoaa
open Go.RowKit Go.Shelf VB
open Go.Lib (hid)
set_option linter.unusedVariables false
set_option linter.unusedSimpArgs false
attribute [local go_sem] Oper.semAt_some
theorem sort_own {base k f : Nat} {C : Option Addr} {zs : List Int} {w : World} (h : w.ownsRow base 3 1 (.slice C k f) k (zs.map (Value.int .i64))) (hk : k ≤ 1000000000000) :
    Calls Try.prog 63 #[.slice C k f] w fun e w' => e = .returned (.tuple #[]) ∧ w'.ownsRow base 3 1 (.slice C k f) k ((sortI zs).map (Value.int .i64)) ∧ w.grownBy w' (Value.slice C k f).ownBlock := by
  have hl : zs.length = k := by have := h.1; simpa using this
  by_cases h0 : k = 0
  · subst h0
    have hz : zs = [] := List.eq_nil_of_length_eq_zero hl
    subst hz
    refine (Try.slices_Sort_int_none C f w).mono ?_
    rintro e w' ⟨rfl, rfl⟩
    exact ⟨rfl, by simpa using h, ⟨rfl, rfl, rfl, Nat.le_refl _, fun _ _ _ => rfl⟩⟩
  · rcases h.2 with ⟨_, hn⟩ | ⟨g, cap, cur, hv, hb, hg, hn, hc, hs, ht⟩
    · omega
    · injection hv with h1 h2 h3
      subst h1
      subst h3
      have ht' : cur.toList.take zs.length = zs.map (Value.int .i64) := by rw [hl]; simpa using ht
      have := Try.slices_Sort_int g 0 f zs w (holds_of_blockI hg ht') (Array.getElem?_eq_some_iff.1 hg).1 (by omega)
      rw [hl] at this
      refine this.mono ?_
      rintro e w' ⟨rfl, n, os, rfl⟩
      have hh := ownsRow_sortedI (n := n) (os := os) (ss := zs) (ts := sortI zs) (by simp) hb hg (by omega) hc hs
      rw [hl] at hh
      exact ⟨rfl, hh, grownBy_sortedI _⟩
def RetPg (ps : List Int) (w : World) (e : Ending) (w' : World) : Prop :=
  ∃ (k f : Nat) (C : Option Addr), k = (firsts [] ps).length ∧ e = .returned (.slice C k f) ∧ w'.ownsRow w.heap.size 3 1 (.slice C k f) k ((sortI (firsts [] ps)).map (Value.int .i64)) ∧ Below w.heap.size w w'
/-- what has been gathered -/
def GotP (w : World) (ps : List Int) (W : World) : Prop :=
  ∃ (k f : Nat) (C : Option Addr), Blk W (w.heap.size + 2) 43 #[.slice C k f] ∧ Hid (k = (firsts [] ps).length) ∧ W.ownsRow w.heap.size 3 1 (.slice C k f) k ((firsts [] ps).map (Value.int .i64))
theorem int_info : (Try.prog.info? 3).map (fun i => (i.zero, i.size, i.bytes)) = some (some (.int .i64 0), 1, 8) := by kernel_rfl
set_option maxRecDepth 100000 in
set_option maxHeartbeats 4000000 in
theorem Pages_c (A : Option Addr) (n c : Nat) (L : List Rw) (w : World) (h : PgIn w A n c L) :
    Calls Try.prog 27 #[.slice A n c] w (RetPg (allP L) w) := by
  obtain ⟨i0, hi0, hz0, hz1, hz2⟩ := info_parts3 int_info
  have HI := hid (And.intro hi0 (And.intro hz0 (And.intro hz1 hz2)))
  have HM := hid h
  have HTOT := hid h.total
  obtain ⟨W0, hW0⟩ : ∃ W0, W0 = (((w.alloc (.map #[] 0)).alloc (.cells #[.map (some w.heap.size)] 72)).alloc (.cells #[.slice none 0 0] 43)).alloc (.cells #[.slice A n c] 56) := ⟨_, rfl⟩
  have q1 : Blk W0 (w.heap.size + 1) 72 #[.map (some w.heap.size)] := by rw [hW0]; exact ((Blk.new_at _ _ _ (by simp)).alloc _).alloc _
  have q2 : Blk W0 (w.heap.size + 2) 43 #[.slice none 0 0] := by rw [hW0]; exact (Blk.new_at _ _ _ (by simp)).alloc _
  have q3 : Boxed W0 (w.heap.size + 1 + 1 + 1) 56 (.slice A n c) := by rw [hW0]; exact Blk.new_at _ _ _ (by simp)
  have q4 : MetAt W0 w.heap.size [] := by
    rw [hW0]
    exact (met_new w).keep ((Below.heap_alloc _ _ _ (by simp; omega)).trans ((Below.heap_alloc _ _ _ (by simp; omega)).trans (Below.heap_alloc _ _ _ (by simp))))
  have q5 : Below w.heap.size w W0 := by rw [hW0]; exact ((((Below.refl _ _).alloc (Nat.le_refl _) _).alloc (by simp) _).alloc (by simp; omega) _).alloc (by simp; omega) _
  have q6 : W0.heap.size = w.heap.size + 4 := by rw [hW0]; simp
  have HQ := hid (And.intro q1 (And.intro q2 (And.intro q3 (And.intro q4 (And.intro q5 q6)))))
  have HW0 := hid hW0
  have hmm : ∀ (t : TypeId) (w : World), (Instr.makeMap t none).run Try.prog w = .ok (.map (some w.heap.size)) (w.alloc (.map #[] 0)) := fun _ _ => rfl
  clear q1 q2 q3 q4 q5 q6 hW0 h hi0 hz0 hz1 hz2
  refine (callsIn_wide (n := 9)).1 (callsIn_of_wp_marks Try.func27 rfl trivial (wpIn_wide.2 ?_) rfl)
  simp only [Try.ntmps27, List.size_toArray, List.length_cons, List.length_nil, Nat.reduceAdd, Nat.reduceSub, Array.replicate_succ, Array.replicate_zero, List.push_toArray, List.append_toArray, List.nil_append, List.cons_append]
  go_wp2_with fail
  refine (pages_c _ _ _ _).mono ?_
  rintro e w' ⟨rfl, rfl⟩
  go_wp2_with fail
  rw [← HW0.out]
  obtain ⟨q1, q2, q3, q4, q5, q6⟩ := HQ.out
  have hsw : w.heap.size ≤ W0.heap.size := q5.size
  have hb0 : w.heap.size < w.heap.size + 1 := by omega
  clear HW0
  refine wpIn_wide.1 (wpIn_rangeFunc_ownH (n := 9) (F := Fence.wide) rfl (by omega) (gf := 99) (lb := #[.pointer (some ⟨w.heap.size + 1 + 1 + 1, 0, none⟩)]) rfl trivial enters_pg
    (pg_stops 8 (w.heap.size + 1 + 1 + 1) A n c L w HM.out W0 q5 q3) belowK_t (belowK_b hsw) (Below.refl _ _) (fun _ => rfl)
    (fun pre W => (GotP w pre W ∧ (Blk W (w.heap.size + 1) 72 #[.map (some w.heap.size)] ∧ MetAt W w.heap.size pre.reverse)) ∧ Below w.heap.size w W)
    (fun _ _ _ => False) ?own (fun _ _ _ _ _ hs _ _ => hs) ⟨⟨⟨0, 0, none, q2, hid rfl, World.ownsRow_nil _ _ _ _⟩, q1, q4⟩, q5⟩
    (fun x a' W => a' = { tmps := #[.slice A n c, undef, .slice none 0 0, .pointer (some ⟨w.heap.size + 1, 0, none⟩), .pointer (some ⟨w.heap.size + 1 + 1, 0, none⟩), .int .i64 x, .map (some w.heap.size), .slice A n c, .func (.func 99) #[] #[.pointer (some ⟨w.heap.size + 1 + 1 + 1, 0, none⟩)], .int .i64 x, undef, undef, undef, undef, undef, undef, undef, undef, undef, undef, undef, undef, undef, undef, undef], defers := [] })
    ?ax ?assign ?body ?done ?stop)
  case own =>
    refine OwnFrom.and ?_ (ownFrom_below (Nat.le_refl _) hsw)
    rintro s X Y row ⟨⟨k, f, C, b1, b2, b3⟩, b4, b5⟩ hg hr
    have hlo : ∀ j, j < w.heap.size + 4 → j < X.heap.size → Y.heap[j]? = X.heap[j]? := fun j hj hjx => hg.block j hjx (fun e => by
      have := (hr j e.symm).1
      omega)
    refine ⟨⟨k, f, C, (hlo _ (by omega) b1.lt).trans b1, b2, b3.kept hg ?_⟩, (hlo _ (by omega) b4.lt).trans b4, b5.keep (hlo _ (by omega) b5.lt)⟩
    rcases b3.2 with ⟨hv, _⟩ | ⟨g, cap, cur, hv, _, hg1, _⟩
    · rw [hv]; exact .inl rfl
    · rw [hv]
      refine .inr fun e => ?_
      obtain ⟨_, o, ho, hc⟩ := hr g e.symm
      rw [hg1] at ho
      cases ho
      cases hc
  case ax =>
    rintro x a' _ X Y row h hg hr
    exact h
  case assign =>
    rintro l pre x W K hI hK
    gi_wp2
    exact hK _ _ ((KeepsOthers.refl _).from _) (Below.refl _ W) hI rfl
  case body =>
    rintro l pre x a' W hl ⟨rr, hrr⟩ ⟨⟨⟨k, f, C, b1, b2, b3⟩, b4, b5⟩, b6⟩ rfl hlt
    obtain ⟨L0, hL0⟩ : ∃ L0, L0 = pre.reverse := ⟨_, rfl⟩
    rw [← hL0] at b5
    have hz : ∀ w, (zeroValue 3).run Try.prog w = .ok (.int .i64 0) w := fun w => by kernel_rfl
    have hL0l : L0.length ≤ 80000000000 := by rw [hL0, List.length_reverse]; have := HTOT.out; omega
    have hkl : k ≤ 80000000000 := by
      have := firsts_len pre []
      have := b2.out
      have := HTOT.out
      omega
    have hg := met_get (P := Try.prog) (k := x) b5 Try.underlying72 Try.underlying3 (hz W)
    obtain ⟨w1, hpu, hm1, hb1⟩ := met_put (P := Try.prog) (k := x) b5 Try.underlying72 Try.underlying3
    have hg1 := met_get (P := Try.prog) (k := x) hm1 Try.underlying72 Try.underlying3 (hz w1)
    rw [List.count_cons_self] at hg1
    have hcl : L0.count x ≤ 80000000000 := Nat.le_trans List.count_le_length hL0l
    have hin : (L0.count x = 0) ↔ x ∉ L0 := List.count_eq_zero
    obtain ⟨kk, hkk⟩ : ∃ kk, kk = L0.count x := ⟨_, rfl⟩
    rw [← hkk] at hg hpu hg1 hcl hin
    have hw : wrap64 ((kk : Nat) + 1 : Int) = ((kk : Nat) + 1 : Int) := by unfold wrap64; omega
    rw [show ((kk + 1 : Nat) : Int) = (kk : Int) + 1 by omega] at hg1
    have k1 := b1.but hb1 (by omega)
    have k4 := b4.but hb1 (by omega)
    have k3 : w1.ownsRow w.heap.size 3 1 (.slice C k f) k ((firsts [] pre).map (Value.int .i64)) := by
      refine b3.kept (row := some w.heap.size) ⟨hb1.os, hb1.tape, hb1.output, hb1.size, fun i hi hn => hb1.block i hi (fun e => hn (by rw [e]))⟩ ?_
      rcases b3.2 with ⟨hv, _⟩ | ⟨g, cap, cur, hv, _, hgc, _⟩
      · rw [hv]; exact .inl rfl
      · rw [hv]
        refine .inr fun e => ?_
        have e2 : g = w.heap.size := by simpa [Value.ownBlock] using e
        obtain ⟨_, _, _, hmp, _⟩ := b5
        rw [e2] at hgc
        rw [hgc] at hmp
        cases hmp
    have hbW := But.below (Below.refl w.heap.size W) hb1 (Nat.le_refl _) b6.size
    have hbw := b6.trans hbW
    have hkf : KeepsFrom W0.heap.size W w1 := ⟨hb1.size, fun i o hi ho hoc => (hb1.block i (Array.getElem?_eq_some_iff.1 ho).1 (by omega)).trans ho⟩
    have hrev : (pre ++ [x]).reverse = x :: L0 := by rw [List.reverse_append, hL0]; rfl
    have hsn : firsts [] (pre ++ [x]) = firsts [] pre ++ (if x ∈ L0 then [] else [x]) := by rw [firsts_snoc, List.append_nil, ← hL0]
    have e1 : W.cell? ⟨w.heap.size + 1, 0, none⟩ = some (.map (some w.heap.size)) := b4.cell 0
    have e2 : w1.cell? ⟨w.heap.size + 1, 0, none⟩ = some (.map (some w.heap.size)) := k4.cell 0
    have e3 : w1.cell? ⟨w.heap.size + 1 + 1, 0, none⟩ = some (.slice C k f) := k1.cell 0
    have e4 : w1.frozen? ⟨w.heap.size + 1 + 1, 0, none⟩ = false := k1.frozen 0
    have e5 : w.heap.size + 1 + 1 < w1.heap.size := k1.lt
    have hb8 : w.heap.size ≤ w1.heap.size := by omega
    have HG := hid hg
    have HG1 := hid hg1
    have HP := hid hpu
    have HKL := hid (And.intro hkl b2.out)
    have HST := hid (And.intro k1 (And.intro k3 (And.intro k4 (And.intro hm1 (And.intro hbW (And.intro hbw (And.intro hkf (And.intro hrev hsn))))))))
    clear hg hg1 hpu hrr b1 b2 b3 b4 b5 b6 hcl hkl hL0l hL0 hb1 k1 k3 k4 hm1 hbW hbw hkf hrev hsn hlt hl hkk
    by_cases hx : x ∈ L0
    · have hne : ((kk : Int) + 1 == 1) = false := by
        have : kk ≠ 0 := fun h => (hin.1 h) hx
        simp; omega
      have hN := hid (show KeepsFrom W0.heap.size W w1 ∧ Below w.heap.size W w1 ∧ ((GotP w (pre ++ [x]) w1 ∧ (Blk w1 (w.heap.size + 1) 72 #[.map (some w.heap.size)] ∧ MetAt w1 w.heap.size (pre ++ [x]).reverse)) ∧ Below w.heap.size w w1) by
        obtain ⟨k1, k3, k4, hm1, hbW, hbw, hkf, hrev, hsn⟩ := HST.out
        rw [if_pos hx, List.append_nil] at hsn
        exact ⟨hkf, hbW, ⟨⟨k, f, C, k1, hid (by rw [hsn]; exact HKL.out.2), by rw [hsn]; exact k3⟩, k4, by rw [hrev]; exact hm1⟩, hbw⟩)
      clear hin hx
      gi_wp2_with (first | (gi_at_lookup; refine wpListIn_lookup_run W (by rfl) (.tmp 10) (.tmp 11) 72 (by rfl) (.map (some w.heap.size)) (.int .i64 x) _ (by rfl) (by rfl) HG.out ?_) | (gi_at_lookup; refine wpListIn_lookup_run w1 (by rfl) (.tmp 14) (.tmp 15) 72 (by rfl) (.map (some w.heap.size)) (.int .i64 x) _ (by rfl) (by rfl) HG1.out ?_) | (gi_at_mapUpdate; refine wpListIn_mapUpdate_run W (by rfl) (.tmp 10) (.tmp 11) (.tmp 13) 72 (by rfl) (.map (some w.heap.size)) (.int .i64 x) (.int .i64 (kk + 1)) (by rfl) (by rfl) (by simp [Act.eval, hw]) _ HP.out ?_))
      exact hN.out
    · have hkk0 : kk = 0 := hin.2 hx
      subst hkk0
      have HX := hid hx
      clear hin hx
      gi_wp2_with (first | (gi_at_lookup; refine wpListIn_lookup_run W (by rfl) (.tmp 10) (.tmp 11) 72 (by rfl) (.map (some w.heap.size)) (.int .i64 x) _ (by rfl) (by rfl) HG.out ?_) | (gi_at_lookup; refine wpListIn_lookup_run w1 (by rfl) (.tmp 14) (.tmp 15) 72 (by rfl) (.map (some w.heap.size)) (.int .i64 x) _ (by rfl) (by rfl) HG1.out ?_) | (gi_at_mapUpdate; refine wpListIn_mapUpdate_run W (by rfl) (.tmp 10) (.tmp 11) (.tmp 13) 72 (by rfl) (.map (some w.heap.size)) (.int .i64 x) (.int .i64 ((0 : Nat) + 1)) (by rfl) (by rfl) (by simp [Act.eval, hw]) _ HP.out ?_) | (gi_at_builtin; refine wpListIn_append_own _ rfl (.tmp 18) (.tmp 20) 43 rfl w.heap.size 3 i0 (.int .i64 0) 1 8 Try.underlying43 HI.out.1 HI.out.2.1 HI.out.2.2.1 HI.out.2.2.2 rfl (by decide) _ _ _ rfl (HST.out.2.1.alloc _) ⟨w1.heap.size, 0, none⟩ 1 1 [.int .i64 x] rfl rfl (cell_one_new _ _ _) (by simp [Value.oneCell']) (by have := HKL.out.1; simp only [maxLen]; omega) (by have := HKL.out.1; omega) (by simp; omega) ?_; intro v' w2 hown' hgrow _; obtain ⟨g', cap', rfl⟩ := ownsRow_succ hown'; obtain ⟨hv1, hv2, hr2, hk2, hb2⟩ := Boxed.appended (B := w.heap.size + 2) HST.out.1 (by decide) HST.out.2.1 hb8 (by omega) hown' hgrow; have hc1 := hv1.cell; have hf1 := hv1.frozen; have hl1 := hv1.lt))
      obtain ⟨k1, k3, k4, hm1, hbW, hbw, hkf, hrev, hsn⟩ := HST.out
      rw [if_neg HX.out] at hsn
      have k4' : Boxed w2 (w.heap.size + 1) 72 (.map (some w.heap.size)) := Boxed.kept (Boxed.alloc (show Boxed w1 (w.heap.size + 1) 72 (.map (some w.heap.size)) from k4) _) hgrow (Boxed.not_row (show Boxed w1 (w.heap.size + 1) 72 (.map (some w.heap.size)) from k4) (by decide) k3)
      refine ⟨hkf.trans (hk2.from _), hbW.trans hb2, ⟨⟨k + 1, cap', some ⟨g', 0, none⟩, hv2, hid (by rw [hsn, List.length_append, ← HKL.out.2]; rfl), ?_⟩, (show Blk w2 (w.heap.size + 1) 72 #[.map (some w.heap.size)] from k4').far (by simp) _, ?_⟩, hbw.trans hb2⟩
      · rw [hsn, List.map_append]; exact hr2
      · rw [hrev]
        have hm1' := hm1
        obtain ⟨es, ck, M, m1, _⟩ := hm1'
        exact hm1.keep ((hk2.same _ _ m1 rfl).trans m1.symm)
  case done =>
    rintro D ys W hD hys ⟨⟨⟨k, f, C, b1, b2, b3⟩, b4, b5⟩, b6⟩ hK
    subst hys
    have hkl : k ≤ 80000000000 := by
      have := firsts_len (allP L) []
      have := b2.out
      have := HTOT.out
      omega
    have HB1 := hid b1
    have HSO := hid ((sort_own b3 (by omega)).mono (R' := fun e W2 => e = .returned (.tuple #[]) ∧ Blk W2 (w.heap.size + 2) 43 #[.slice C k f] ∧ W2.heap[D]? = some (.deferred (some [])) ∧ W2.ownsRow w.heap.size 3 1 (.slice C k f) k ((sortI (firsts [] (allP L))).map (Value.int .i64)) ∧ Below w.heap.size w W2) fun e W2 ⟨h1, h2, h3⟩ => ⟨h1, Boxed.kept b1 h3 (Boxed.not_row b1 (by decide) b3), (h3.block D (Array.getElem?_eq_some_iff.1 hK).1 (fun e => by
        rcases b3.2 with ⟨hv, _⟩ | ⟨g, cap, cur, hv, _, hgc, _⟩
        · rw [hv] at e; cases e
        · rw [hv] at e
          have e2 : D = g := by simpa [Value.ownBlock] using e
          rw [e2] at hK
          rw [hgc] at hK
          cases hK)).trans hK, h2, b6.grown h3 b6.size (fun j hj => (b3.lt j hj).1)⟩)
    have c1 : W.cell? ⟨w.heap.size + 1 + 1, 0, none⟩ = some (.slice C k f) := b1.cell 0
    have HK := hid b2.out
    clear b1 b2 b3 b4 b5 b6 hK
    go_wp2_with fail
    refine HSO.out.mono ?_
    rintro e W2 ⟨rfl, d1, d2, d3, d4⟩
    have c2 : W2.cell? ⟨w.heap.size + 1 + 1, 0, none⟩ = some (.slice C k f) := d1.cell 0
    have HD := hid (And.intro d2 (And.intro d3 d4))
    clear d1 d2 d3 d4 HSO
    go_wp2_with fail
    refine ⟨by simp, .inl ⟨_, _, rfl, run_takeDeferred HD.out.1, ?_⟩⟩
    have hne : some D ≠ (Value.slice C k f).ownBlock := fun e => by
      rcases HD.out.2.1.2 with ⟨hv, _⟩ | ⟨g, cap, cur, hv, _, hgc, _⟩
      · rw [hv] at e; cases e
      · rw [hv] at e
        have e2 : D = g := by simpa [Value.ownBlock] using e
        have := HD.out.1
        rw [e2, hgc] at this
        cases this
    exact ⟨_, results_tmp rfl _ _ _, k, f, C, HK.out, rfl, HD.out.2.1.kept (grownBy_putObj' _ _ _) (.inr (fun e => hne e.symm)), HD.out.2.2.trans (belowK_b (w := w) (Nat.le_refl _) W2 D _ (.deferred none) (by omega) HD.out.1 rfl rfl)⟩
  case stop =>
    rintro D cc pre W _ _ hh _
    exact hh.elim
end Go.Proofs.Ytgdnpmjmkcccoaa
namespace Go.Proofs.Ytgdnpmjmkcccoaa
open Go.RowKit Go.Shelf VB
open Go.Lib (hid)
set_option linter.unusedVariables false
set_option linter.unusedSimpArgs false
theorem bl_irr : ∀ a : List UInt8, Op.bytesLess a a = false
  | [] => rfl
  | x :: a => by simp [Op.bytesLess, bl_irr a]
theorem bl_trans : ∀ a b c : List UInt8, Op.bytesLess a b = true → Op.bytesLess b c = true → Op.bytesLess a c = true
  | _, [], _, h, _ => by simp [Op.bytesLess] at h
  | _, _ :: _, [], _, h => by simp [Op.bytesLess] at h
  | [], _ :: _, _ :: _, _, _ => rfl
  | x :: a, y :: b, z :: c, h, k => by
    have ih := bl_trans a b c
    simp only [Op.bytesLess, Bool.or_eq_true, Bool.and_eq_true, decide_eq_true_eq, beq_iff_eq] at h k ⊢
    rcases h with h | ⟨rfl, h⟩
    · rcases k with k | ⟨rfl, k⟩
      · exact .inl (UInt8.lt_trans h k)
      · exact .inl h
    · rcases k with k | ⟨rfl, k⟩
      · exact .inl k
      · exact .inr ⟨rfl, ih h k⟩
theorem nm_irr (a : ByteArray) : nmLt a a = false := bl_irr _
theorem nm_trans {a b c : ByteArray} (h : nmLt a b = true) (k : nmLt b c = true) : nmLt a c = true := bl_trans _ _ _ h k
abbrev Asc (l : List Ro) : Prop := l.Pairwise fun x y => nmLt x.nm y.nm = true
theorem rises_pw : ∀ (l : List Ro) (pr : Option ByteArray), risesB pr l = true ↔ (∀ x ∈ l, rowOk x = true) ∧ (∀ x ∈ l, behN pr x.nm = true) ∧ Asc l
  | [], pr => by simp [risesB, Asc]
  | x :: l, pr => by
    have ih := rises_pw l (some x.nm)
    unfold risesB
    rw [Bool.and_eq_true, Bool.and_eq_true, ih]
    unfold Asc
    rw [List.pairwise_cons]
    simp only [List.mem_cons, forall_eq_or_imp]
    constructor
    · rintro ⟨h1, h2, h3, h4, h5⟩
      refine ⟨⟨h1, h3⟩, ⟨h2, fun y hy => ?_⟩, h4, h5⟩
      cases pr with
      | none => rfl
      | some p => exact nm_trans h2 (h4 y hy)
    · rintro ⟨⟨h1, h3⟩, ⟨h2, _⟩, h4, h5⟩
      exact ⟨h1, h2, h3, h4, h5⟩
theorem fresh_of : ∀ (ps L : List Int), ps.Nodup → (∀ p ∈ ps, p ∉ L) → freshB ps L = true
  | [], L, _, _ => rfl
  | x :: ps, L, h, k => by
    have hc := List.nodup_cons.1 h
    unfold freshB
    simp only [Bool.and_eq_true, decide_eq_true_eq]
    refine ⟨k x List.mem_cons_self, fresh_of ps _ hc.2 fun p hp hl => ?_⟩
    rcases List.mem_cons.1 hl with rfl | hl
    · exact hc.1 hp
    · exact k p (List.mem_cons_of_mem _ hp) hl
theorem man_iff (l : List Ro) : manOk l = true ↔ l.length ≤ 8 ∧ ((∀ x ∈ l, rowOk x = true) ∧ Asc l) ∧ (pgsR l).Nodup := by
  unfold manOk
  simp only [Bool.and_eq_true, decide_eq_true_eq, rises_pw]
  constructor
  · rintro ⟨h1, ⟨h2, _, h3⟩, h4⟩
    exact ⟨h1, ⟨h2, h3⟩, (fresh_nodup _ _ h4).1⟩
  · rintro ⟨h1, ⟨h2, h3⟩, h4⟩
    exact ⟨h1, ⟨h2, fun _ _ => rfl, h3⟩, fresh_of _ _ h4 (by simp)⟩
theorem less_sub {α : Type} (l : List α) (k : Nat) : (l.take k ++ l.drop (k + 1)).Sublist l := by
  conv => rhs; rw [← List.take_append_drop k l]
  refine List.Sublist.append (List.Sublist.refl _) ?_
  exact List.drop_sublist_drop_left l (Nat.le_succ k)
theorem flat_sub {α β : Type} (f : α → List β) {a b : List α} (h : a.Sublist b) : (a.flatMap f).Sublist (b.flatMap f) := by
  induction h with
  | slnil => exact List.Sublist.refl _
  | cons x h ih => rw [List.flatMap_cons]; exact ih.trans (List.sublist_append_right _ _)
  | cons_cons x h ih => rw [List.flatMap_cons, List.flatMap_cons]; exact List.Sublist.append (List.Sublist.refl _) ih
theorem man_less {l : List Ro} (h : manOk l = true) (k : Nat) : manOk (l.take k ++ l.drop (k + 1)) = true := by
  obtain ⟨h1, ⟨h2, h3⟩, h4⟩ := (man_iff l).1 h
  have hs := less_sub l k
  exact (man_iff _).2 ⟨Nat.le_trans hs.length_le h1, ⟨fun x hx => h2 x (hs.subset hx), h3.sublist hs⟩, h4.sublist (flat_sub _ hs)⟩
theorem man_twice {l : List Ro} {k : Nat} (hk : k < l.length) : manOk (l.take (k + 1) ++ l.drop k) = false := by
  cases hm : manOk (l.take (k + 1) ++ l.drop k) with
  | false => rfl
  | true =>
    obtain ⟨_, ⟨_, h3⟩, _⟩ := (man_iff _).1 hm
    have h := (List.pairwise_append.1 h3).2.2 l[k] (by rw [List.take_succ_eq_append_getElem hk]; exact List.mem_append_right _ (List.mem_singleton.2 rfl)) l[k] (by rw [List.drop_eq_getElem_cons hk]; exact List.mem_cons_self)
    rw [nm_irr] at h
    cases h
theorem man_rev {l : List Ro} (h : manOk l = true) (h2 : 2 ≤ l.length) : manOk l.reverse = false := by
  cases hm : manOk l.reverse with
  | false => rfl
  | true =>
    obtain ⟨_, ⟨_, h3⟩, _⟩ := (man_iff _).1 hm
    obtain ⟨_, ⟨_, h5⟩, _⟩ := (man_iff _).1 h
    match l, h2, h3, h5 with
    | x :: y :: l, _, h3, h5 =>
      have a := (List.pairwise_cons.1 h5).1 y List.mem_cons_self
      have b := (List.pairwise_cons.1 (List.pairwise_reverse.1 h3)).1 y List.mem_cons_self
      have c := nm_trans a b
      rw [nm_irr] at c
      cases c
theorem firsts_fresh : ∀ (ps L : List Int), ps.Nodup → (∀ p ∈ ps, p ∉ L) → firsts L ps = ps
  | [], _, _, _ => rfl
  | x :: ps, L, h, k => by
    have hc := List.nodup_cons.1 h
    rw [firsts, if_neg (k x List.mem_cons_self), firsts_fresh ps _ hc.2]
    intro p hp hl
    rcases List.mem_cons.1 hl with rfl | hl
    · exact hc.1 hp
    · exact k p (List.mem_cons_of_mem _ hp) hl
theorem man_pages {l : List Ro} (h : manOk l = true) : firsts [] (pgsR l) = pgsR l :=
  firsts_fresh _ _ ((man_iff l).1 h).2.2 (by simp)
/-- what a row of a manifest that may be is -/
theorem man_row {l : List Ro} (h : manOk l = true) {i : Nat} {x : Ro} (hx : l[i]? = some x) : mayB x.en [] none = true ∧ x.op.length < 32 ∧ ∀ y, 0 < i → l[i - 1]? = some y → nmLt y.nm x.nm = true := by
  obtain ⟨_, ⟨h2, h3⟩, _⟩ := (man_iff l).1 h
  have hr := h2 x (List.mem_of_getElem? hx)
  unfold rowOk at hr
  simp only [Bool.and_eq_true] at hr
  obtain ⟨_, _, _, _, _, hmy, _, ht⟩ := hr
  refine ⟨hmy, ?_, fun y hi hy => ?_⟩
  · unfold tailB openB at ht
    simp only [Bool.and_eq_true, decide_eq_true_eq] at ht
    exact ht.1.1
  · obtain ⟨a, b⟩ := List.getElem?_eq_some_iff.1 hx
    obtain ⟨c, d⟩ := List.getElem?_eq_some_iff.1 hy
    have := List.pairwise_iff_getElem.1 h3 (i - 1) i c a (by omega)
    rw [b, d] at this
    exact this
end Go.Proofs.Ytgdnpmjmkcccoaa
namespace Go.Proofs.Ytgdnpmjmkcccoaa
open Go.RowKit Go.Shelf VB
open Go.Lib (hid)
set_option linter.unusedVariables false
set_option linter.unusedSimpArgs false
theorem one_R (l : List RoA) : ∀ v ∈ l.flatMap cellsR, v.oneCell' = true := by
  intro v hv
  obtain ⟨x, _, hx⟩ := List.mem_flatMap.1 hv
  simp only [cellsR, List.mem_cons, List.not_mem_nil, or_false] at hx
  rcases hx with rfl | rfl | rfl | rfl | rfl | rfl | rfl <;> rfl
def RetCatR (l : List RoA) (w : World) (e : Ending) (w' : World) : Prop := ∃ C f, e = .returned (.slice C l.length f) ∧ w'.ownsRow w.heap.size 42 7 (.slice C l.length f) l.length (l.flatMap cellsR) ∧ Below w.heap.size w w'
def RetV0R (w : World) (e : Ending) (w' : World) : Prop := ∃ C f, e = .returned (.slice C 0 f) ∧ w'.ownsRow w.heap.size 42 7 (.slice C 0 f) 0 [] ∧ Below w.heap.size w w'
set_option maxHeartbeats 1000000 in
theorem grow_bR (n : Nat) (w : World) (hn : n ≤ 100000000) :
    Calls Try.prog 70 #[.slice none 0 0, .int .i64 n] w (RetV0R w) := by
  obtain ⟨i0, hi0, hz0, hz1, hz2⟩ := info_parts3 row_info
  have h1 : ¬ ((n : Int) < 0) := by omega
  have h3 : wrap64 (n : Int) = (n : Int) := by unfold wrap64; omega
  rcases Nat.eq_zero_or_pos n with h0 | h0
  · subst h0
    have HF := hid (show RetV0R w (.returned (.slice none 0 0)) w from ⟨none, 0, rfl, World.ownsRow_nil _ _ _ _, Below.refl _ _⟩)
    clear h1 h3 hi0 hz0 hz1 hz2
    go_enter Try.func70, Try.ntmps70
    go_wp2_with fail
    go_ret
    exact HF.out
  · have h4 : (n : Int) > 0 := by omega
    have hold : ∀ w : World, (Builtin.firstCells i0.size 0 (.slice none 0 0)).run Try.prog w.drew = .ok ([] : List Value).toArray w.drew := fun w => run_firstCells_none w.drew i0.size 0 0 0
    obtain ⟨G, hG⟩ : ∃ G, G = grownCap w (0 + n) 0 42 := ⟨_, rfl⟩
    have hGn : 0 + n ≤ grownCap w (0 + n) 0 42 := grownCap_ge w _ _ _
    have hG63 := grownCap_le_maxLen w (0 + n) 0 42 (by unfold maxLen; omega)
    have hrz : ∀ ty, (Builtin.append_ #[22, 3] ty #[.slice none 0 0, .int .i64 (n : Int)]).run Try.prog w =
        .ok (.slice (some ⟨w.heap.size, 0, none⟩) n G) (w.drew.alloc (.cells (([] : List Value).toArray ++ Builtin.zeroCells (Value.agg #[.string ⟨#[]⟩, .int .i64 0, .int .i64 0, .int .i64 0, .int .i64 0, .slice none 0 0, .slice none 0 0]).cells n ++ Builtin.zeroCells (Value.agg #[.string ⟨#[]⟩, .int .i64 0, .int .i64 0, .int .i64 0, .int .i64 0, .slice none 0 0, .slice none 0 0]).cells (G - n)) 42)) := fun ty => by
      have h := Lib.run_append_grow_zeros w 22 3 ty 42 i0 (.agg #[.string ⟨#[]⟩, .int .i64 0, .int .i64 0, .int .i64 0, .int .i64 0, .slice none 0 0, .slice none 0 0]) .i64 .i64 Try.underlying22 Try.underlying3 hi0 hz0 none 0 0 [] (hold w) n h0 (by rw [hz1]; decide) (by omega) (by omega)
        (by rw [hz2]; omega) (by exact growslice_fits (by omega) (by rw [hz2]; omega))
      rw [← hG] at h
      rw [Nat.zero_add] at h
      exact h
    rw [← hG, Nat.zero_add] at hGn
    rw [← hG] at hG63
    have hGI : G ≤ 9223372036854775807 := by unfold maxLen at hG63; omega
    have hsz : (([] : List Value).toArray ++ Builtin.zeroCells (Value.agg #[.string ⟨#[]⟩, .int .i64 0, .int .i64 0, .int .i64 0, .int .i64 0, .slice none 0 0, .slice none 0 0]).cells n ++ Builtin.zeroCells (Value.agg #[.string ⟨#[]⟩, .int .i64 0, .int .i64 0, .int .i64 0, .int .i64 0, .slice none 0 0, .slice none 0 0]).cells (G - n)).size = G * 7 := by
      simp [Builtin.zeroCells, Value.cells]
      omega
    generalize (([] : List Value).toArray ++ Builtin.zeroCells (Value.agg #[.string ⟨#[]⟩, .int .i64 0, .int .i64 0, .int .i64 0, .int .i64 0, .slice none 0 0, .slice none 0 0]).cells n ++ Builtin.zeroCells (Value.agg #[.string ⟨#[]⟩, .int .i64 0, .int .i64 0, .int .i64 0, .int .i64 0, .slice none 0 0, .slice none 0 0]).cells (G - n)) = cs at *
    have HF := hid (show RetV0R w (.returned (.slice (some ⟨w.heap.size, 0, none⟩) 0 G)) (w.drew.alloc (.cells cs 42)) from
      ⟨_, G, rfl, ⟨rfl, .inr ⟨w.heap.size, G, cs, rfl, Nat.le_refl _, heap_alloc_new w.drew _, Nat.zero_le _, hG63, hsz, by simp⟩⟩, (Below.refl w.heap.size w).drew.alloc (Nat.le_refl _) _⟩)
    have hG0 : (0 : Int) ≤ (G : Nat) := by omega
    clear hold hG hsz hG63 hi0 hz0 hz1 hz2 h0
    go_enter Try.func70, Try.ntmps70
    go_wp2_with (at_builtin; refine Lib.wpList_append_run _ rfl _ _ _ _ rfl _ _ rfl rfl _ _ (hrz _) ?_)
    all_goals (go_ret; exact HF.out)
/-- one of the slices that are joinedR -/
structure PartR where
  A : Option Addr
  n : Nat
  c : Nat
  bs : List RoA
def cellSR (q : PartR) : Value := .slice q.A q.n q.c
def joinedR (L : List PartR) : List RoA := L.flatMap PartR.bs
theorem joined_succR {L : List PartR} {i : Nat} (h : i < L.length) : joinedR (L.take (i + 1)) = joinedR (L.take i) ++ (L[i]).bs := by
  unfold joinedR
  rw [List.take_succ_eq_append_getElem h, List.flatMap_append]
  simp
theorem joined_leR {L : List PartR} {i : Nat} : (joinedR (L.take i)).length ≤ (joinedR L).length := by
  unfold joinedR
  conv => rhs; rw [← List.take_append_drop i L, List.flatMap_append, List.length_append]
  omega
set_option maxRecDepth 100000 in
set_option maxHeartbeats 2000000 in
theorem concat_bR {eS : TypeId} (A : Option Addr) (k c : Nat) (L : List PartR) (w : World) (hr : Reads w eS 1 A k (L.map cellSR)) (hl : ∀ q ∈ L, Reads w 42 7 q.A q.n (q.bs.flatMap cellsR)) (htot : (joinedR L).length ≤ 1000000) (hk : k ≤ 1000000) :
    Calls Try.prog 33 #[.slice A k c] w (RetCatR (joinedR L) w) := by
  obtain ⟨i0, hi0, hz0, hz1, hz2⟩ := info_parts3 row_info
  have HI := hid (And.intro hi0 (And.intro hz0 (And.intro hz1 hz2)))
  have hLk : L.length = k := by have := hr.1; simpa using this
  have HR := hid hr
  have HL := hid hl
  have HT := hid htot
  have HLK := hid hLk
  have HG := hid (fun w' => grow_bR (joinedR L).length w' (by omega))
  clear hr hl htot hLk hi0 hz0 hz1 hz2
  go_enter Try.func33, Try.ntmps33
  go_wp2_with fail
  go_loopw [3, 11] (fun u3 u11 wr => ∃ i s : Nat, i ≤ k ∧ u11 = .int .i64 (i : Nat) ∧ u3 = .int .i64 (s : Nat) ∧ Hid (s = (joinedR (L.take i)).length) ∧ w = wr) (fun _ u11 _ => k - (intOf u11).toNat)
  case atStart => exact ⟨0, 0, Nat.zero_le _, rfl, rfl, hid rfl, rfl⟩
  case round =>
    obtain ⟨i, s, hi, rfl, rfl, hs, rfl⟩ := hrel
    by_cases hlt : i < k
    · obtain ⟨ad, u, rfl, hu, hc⟩ := HR.out.at_ hlt
      have hiL : i < L.length := by have := HLK.out; omega
      rw [List.getElem?_map, List.getElem?_eq_getElem hiL] at hu
      injection hu with hu
      have hq := HL.out _ (List.getElem_mem hiL)
      have hs1 := joined_succR hiL
      have hjl := joined_leR (L := L) (i := i + 1)
      have hbl : (L[i]).bs.length = (L[i]).n := by have := hq.1; rw [recs_len cellsR_len] at this; omega
      generalize L[i] = q at *
      obtain ⟨qa, qn, qc, qb⟩ := q
      subst hu
      have HS := hid (show s + qn = (joinedR (L.take (i + 1))).length ∧ s + qn ≤ 1000000 by
        have := hs.out
        have := HT.out
        rw [hs1, List.length_append] at hjl ⊢
        simp only at hbl hjl ⊢
        exact ⟨by omega, by omega⟩)
      replace hc : w.cell? (ad.add i) = some (.slice qa qn qc) := hc
      have hw : wrap64 ((s : Int) + (qn : Int)) = ((s + qn : Nat) : Int) := by have := HS.out.2; unfold wrap64; omega
      have hn0 : ¬ (((s + qn : Nat) : Int) < 0) := by omega
      have hsi : (i : Int) < (k : Int) := by omega
      have hsi0 : (0 : Int) ≤ (i : Int) := by omega
      clear hs hq hs1 hjl hbl hiL
      go_wp2_with fail
      go_roundw
      case rel => exact ⟨i + 1, s + qn, by omega, by go_num, by rw [hw], hid HS.out.1, trivial⟩
      case measure => simp [intOf]; omega
    · obtain rfl : i = k := by omega
      have hs' : s = (joinedR L).length := by have := hs.out; rw [List.take_of_length_le (by have := HLK.out; omega)] at this; exact this
      subst hs'
      clear hs hlt hi
      go_wp2_with fail
      refine (HG.out _).mono ?_
      rintro e w2 ⟨C, f, rfl, hown, hb⟩
      have HOW := hid hown
      have HB := hid hb
      clear hown hb HG
      go_wp2_with fail
      go_loopw [6, 27] (fun u6 u27 wr => ∃ (j : Nat) (acc : List RoA) (C : Option Addr) (f : Nat), j ≤ i ∧ u27 = .int .i64 (j : Nat) ∧ u6 = .slice C acc.length f ∧ Hid (acc = joinedR (L.take j)) ∧ wr.ownsRow w.heap.size 42 7 (.slice C acc.length f) acc.length (acc.flatMap cellsR) ∧ Below w.heap.size w wr) (fun _ u27 _ => i - (intOf u27).toNat)
      case atStart => exact ⟨0, [], C, f, Nat.zero_le _, rfl, rfl, hid rfl, HOW.out, HB.out⟩
      case round =>
        obtain ⟨j, acc, C, f, hj, rfl, rfl, hacc, hown, hb⟩ := hrel
        by_cases hlt : j < i
        · obtain ⟨ad, u, rfl, hu, hc⟩ := (HR.out.below hb).at_ hlt
          have hiL : j < L.length := by have := HLK.out; omega
          rw [List.getElem?_map, List.getElem?_eq_getElem hiL] at hu
          injection hu with hu
          have hq := (HL.out _ (List.getElem_mem hiL)).below hb
          have hs1 := joined_succR hiL
          have hjl := joined_leR (L := L) (i := j + 1)
          have hbl : (L[j]).bs.length = (L[j]).n := by have := hq.1; rw [recs_len cellsR_len] at this; omega
          generalize L[j] = q at *
          obtain ⟨qa, qn, qc, qb⟩ := q
          subst hu
          simp only at hbl hq
          subst hbl
          have HS := hid (show acc ++ qb = joinedR (L.take (j + 1)) ∧ acc.length + qb.length ≤ 1000000 by
            have h1 := hacc.out
            have := HT.out
            rw [hs1] at hjl ⊢
            rw [← h1] at hjl ⊢
            rw [List.length_append] at hjl
            simp only at hjl
            exact ⟨rfl, by omega⟩)
          replace hc : wr.cell? (ad.add j) = some (.slice qa qb.length qc) := hc
          have HQ := hid hq
          have HB := hid hb
          have HOWN := hid hown
          have hsi : (j : Int) < (i : Int) := by omega
          have hsi0 : (0 : Int) ≤ (j : Int) := by omega
          clear hq hs1 hjl hiL hacc hb hown
          go_wp2_with (at_builtin; refine wpList_append_any _ rfl (.tmp 31) (.tmp 32) 22 rfl w.heap.size 42 i0 (.agg #[.string ⟨#[]⟩, .int .i64 0, .int .i64 0, .int .i64 0, .int .i64 0, .slice none 0 0, .slice none 0 0]) 7 96 Try.underlying22 HI.out.1 HI.out.2.1 HI.out.2.2.1 HI.out.2.2.2 rfl (by decide) (.slice C acc.length f) acc.length (acc.flatMap cellsR) rfl HOWN.out qa qb.length qc (qb.flatMap cellsR) rfl HQ.out (one_R _) (by have := HS.out.2; simp only [maxLen]; omega) (by have := HS.out.2; omega) HB.out.size ?_; intro v' w' hown' hg' hv')
          obtain ⟨C3, f3, rfl, _, _⟩ := own_form hown'
          have hb6 := HB.out.grown hg' HB.out.size (fun k hk => (HOWN.out.lt k hk).1)
          rw [← List.flatMap_append, ← List.length_append] at hown'
          rw [← List.length_append]
          have HO2 := hid hown'
          have HB2 := hid hb6
          clear hg' hv' hown' hb6 hc
          go_wp2_with fail
          go_roundw
          case rel => exact ⟨j + 1, acc ++ qb, C3, f3, by omega, by go_num, rfl, hid HS.out.1, HO2.out, HB2.out⟩
          case measure => simp [intOf]; omega
        · obtain rfl : j = i := by omega
          have HF := hid (show RetCatR (joinedR L) w (.returned (.slice C acc.length f)) wr by
            have e : acc = joinedR L := by rw [hacc.out, List.take_of_length_le (by have := HLK.out; omega)]
            rw [e] at hown ⊢
            exact ⟨C, f, rfl, hown, hb⟩)
          clear hlt hown hb hacc
          go_wp2_with fail
          go_ret
          exact HF.out
end Go.Proofs.Ytgdnpmjmkcccoaa
namespace Go.Proofs.Ytgdnpmjmkcccoaa
open Go.RowKit Go.Shelf VB Go.Sort
open Go.Lib (hid)
set_option linter.unusedVariables false
set_option linter.unusedSimpArgs false
theorem heap_putV {w : World} {g n : Nat} {cur : Array Value} {e : TypeId} {fr : Nat × Nat} (F : Array Value) (hb : w.heap[g]? = some (.cells cur e fr)) :
    (putRow id (Sort.ahead w n) g 0 F).heap[g]? = some (.cells (putCells id 0 F cur) e fr) := by
  simp [putRow, mapBlock, Sort.ahead, Array.getElem?_modify, hb, onCells]
theorem grownBy_putV {w : World} {g n : Nat} (F : Array Value) : w.grownBy (putRow id (Sort.ahead w n) g 0 F) (some g) := by
  refine ⟨rfl, rfl, rfl, by simp [putRow, mapBlock, Sort.ahead], fun k hk hne => ?_⟩
  have : g ≠ k := fun e => hne (by rw [e])
  simp [putRow, mapBlock, Sort.ahead, Array.getElem?_modify, this]
theorem take_putV (cur F : Array Value) (h : F.size ≤ cur.size) : (putCells id 0 F cur).toList.take F.size = F.toList := by
  apply List.ext_getElem?
  intro j
  by_cases hj : j < F.size
  · rw [List.getElem?_take_of_lt hj, Array.getElem?_toList]
    simp [putCells, hj, show j < cur.size by omega]
  · rw [List.getElem?_take_eq_none (by omega), List.getElem?_eq_none (by simp; omega)]
instance : Inhabited RoA := ⟨⟨⟨#[]⟩, 0, 0, 0, 0, [], none, 0, [], none, 0⟩⟩
theorem flat_cells (l : List RoA) : (flatK cellsR 7 l.toArray).toList = l.flatMap cellsR := by
  apply List.ext_getElem?
  intro t
  rw [Array.getElem?_toList]
  by_cases ht : t < l.length * 7
  · have hi : t / 7 < l.length := by omega
    have h1 := recs_at cellsR_len l (t / 7) l[t / 7] (List.getElem?_eq_getElem hi) (t % 7) (by omega)
    rw [show t / 7 * 7 + t % 7 = t by omega] at h1
    rw [h1]
    have h2 : t % 7 < (cellsR l[t / 7]).length := by rw [cellsR_len]; omega
    unfold flatK
    simp [ht, hi, h2]
  · rw [Array.getElem?_eq_none (by simp; omega), List.getElem?_eq_none (by rw [recs_len cellsR_len]; omega)]
theorem rev_c {base k f : Nat} {ad : Addr} {l : List RoA} {w : World} (h : w.ownsRow base 42 7 (.slice (some ad) k f) k (l.flatMap cellsR)) (hk : k ≤ 1000000) :
    Calls Try.prog 34 #[.slice (some ad) k f] w fun e w' => e = .returned (.tuple #[]) ∧ w'.ownsRow base 42 7 (.slice (some ad) k f) k (l.reverse.flatMap cellsR) ∧ w.grownBy w' (Value.slice (some ad) k f).ownBlock := by
  have hl : l.length = k := by have := h.1; rw [recs_len cellsR_len] at this; omega
  rcases h.2 with ⟨hv, _⟩ | ⟨g, cap, cur, hv, hb, hg, hn, hc, hs, ht⟩
  · cases hv
  · injection hv with h1 h2 h3
    injection h1 with h1
    subst h1
    subst h3
    have hF : (flatK cellsR 7 l.toArray).size = k * 7 := by rw [← Array.length_toList, flat_cells, recs_len cellsR_len, hl]
    have hF2 : (flatK cellsR 7 l.toArray.reverse).size = k * 7 := by
      rw [show l.toArray.reverse = l.reverse.toArray by simp, ← Array.length_toList, flat_cells, recs_len cellsR_len, List.length_reverse, hl]
    have hH : HoldsK cellsR 7 w g 0 l.toArray := by
      intro j hj
      rw [hF] at hj
      refine ⟨?_, by simp [World.frozen?, hg]⟩
      have e1 : (flatK cellsR 7 l.toArray).toList[j]? = cur.toList[j]? := by
        rw [flat_cells, ← ht, List.getElem?_take_of_lt hj]
      have hB : Blk w g 42 cur := hg
      rw [Nat.zero_add, hB.cell, ← Array.getElem?_toList, ← e1, Array.getElem?_toList]
      simp [hF, hj]
    have hcon := AnyQ.slices_Reverse Try.layRev 7 Try.isAgg42 Try.sizeOf42 cellsR cellsR_len (fun x v hv => one_R [x] v (by simpa using hv)) g 0 f l.toArray w hH (by simp; omega)
    have hcon2 : Calls Try.prog 34 #[.slice (some ⟨g, 0, none⟩) l.toArray.size f] w fun e w' => e = .returned (.tuple #[]) ∧ ∃ n, w' = putRowK cellsR 7 (Sort.ahead w n) g 0 l.toArray.reverse := hcon
    rw [show l.toArray.size = k by simpa using hl] at hcon2
    refine hcon2.mono ?_
    rintro e w' ⟨rfl, n, rfl⟩
    refine ⟨rfl, ⟨by rw [recs_len cellsR_len, List.length_reverse, hl], .inr ⟨g, f, putCells id 0 (flatK cellsR 7 l.toArray.reverse) cur, rfl, hb, heap_putV _ hg, hn, hc, by simp [putCells, hs], ?_⟩⟩, grownBy_putV _⟩
    have h5 := take_putV cur (flatK cellsR 7 l.toArray.reverse) (by rw [hF2, hs]; omega)
    rw [hF2] at h5
    rw [h5, show l.toArray.reverse = l.reverse.toArray by simp, flat_cells]
end Go.Proofs.Ytgdnpmjmkcccoaa
namespace Go.Proofs.Ytgdnpmjmkcccoaa
open Go.RowKit Go.Shelf VB
open Go.Lib (hid)
set_option linter.unusedVariables false
set_option linter.unusedSimpArgs false
/-- a row of a manifest, as a row of entries -/
def rwOf (x : RoA) : Rw := (x.en, x.ea, x.ec)
theorem allP_rw : ∀ l : List RoA, allP (l.map rwOf) = pgsR (l.map RoA.d)
  | [] => rfl
  | x :: l => by
    have ih := allP_rw l
    unfold allP pgsR at ih ⊢
    rw [List.map_cons, List.map_cons, List.flatMap_cons, List.flatMap_cons, ih]
    congr 1
    unfold RoA.d rwOf pgsA
    simp only [List.flatMap_map]
theorem two_new (w : World) (t : TypeId) (u v : Value) : Reads (w.alloc (.cells #[u, v] t)) t 1 (some ⟨w.heap.size, 0, none⟩) 2 [u, v] := by
  have k := Blk.new w t #[u, v]
  refine ⟨rfl, fun _ => ⟨_, rfl, k.typed, ?_⟩⟩
  intro j y hy
  match j, hy with
  | 0, hy => obtain rfl : u = y := by simpa using hy
             exact k.two.1
  | 1, hy => obtain rfl : v = y := by simpa using hy
             exact k.two.2.1
theorem reads_takeR {α : Type} {cf : α → List Value} {sz : Nat} (hs : ∀ x, (cf x).length = sz) (h0 : 0 < sz) {w : World} {e : TypeId} {A : Option Addr} {n : Nat} {l : List α} (h : Reads w e sz A n (l.flatMap cf)) {k : Nat} (hk : k ≤ n) : Reads w e sz A k ((l.take k).flatMap cf) := by
  have hl : l.length = n := by have := h.1; rw [recs_len hs] at this; exact Nat.eq_of_mul_eq_mul_right h0 this
  refine ⟨by rw [recs_len hs, List.length_take, Nat.min_eq_left (by omega)], fun hk0 => ?_⟩
  obtain ⟨ad, e1, e2, hc⟩ := h.2 (by omega)
  refine ⟨ad, e1, e2, fun j u hj => hc j u ?_⟩
  conv => lhs; rw [← List.take_append_drop k l, List.flatMap_append]
  rw [List.getElem?_append_left (List.getElem?_eq_some_iff.1 hj).1]
  exact hj
theorem reads_dropR {α : Type} {cf : α → List Value} {sz : Nat} (hs : ∀ x, (cf x).length = sz) (h0 : 0 < sz) {w : World} {e : TypeId} {ad : Addr} {B : Option Addr} {n : Nat} {l : List α} (h : Reads w e sz (some ad) n (l.flatMap cf)) {k : Nat} (hk : k ≤ n) (hB : k < n → B = some (ad.add (k * sz))) : Reads w e sz B (n - k) ((l.drop k).flatMap cf) := by
  have hl : l.length = n := by have := h.1; rw [recs_len hs] at this; exact Nat.eq_of_mul_eq_mul_right h0 this
  refine ⟨by rw [recs_len hs, List.length_drop, hl], fun hk0 => ?_⟩
  obtain ⟨ad', e1, e2, hc⟩ := h.2 (by omega)
  injection e1 with e1
  subst e1
  refine ⟨ad.add (k * sz), hB (by omega), by rw [block_of_add]; exact e2, fun j u hj => ?_⟩
  rw [add_of_add]
  refine hc _ u ?_
  conv => lhs; rw [← List.take_append_drop k l, List.flatMap_append]
  have hlen : ((l.take k).flatMap cf).length = k * sz := by rw [recs_len hs, List.length_take, Nat.min_eq_left (by omega)]
  rw [List.getElem?_append_right (by omega), hlen, Nat.add_sub_cancel_left]
  exact hj
theorem undrewP {B : Nat} {W w1 : World} (h : Below B W.drew w1) : Below B W w1 := ⟨h.os, h.tape, h.output, h.size, h.block⟩
theorem Blk.not_row {w : World} {g : Nat} {t e : TypeId} {cs : Array Value} (h : Blk w g t cs) (hte : t ≠ e) {base size k : Nat} {v : Value} {xs : List Value} (hr : w.ownsRow base e size v k xs) : some g ≠ v.ownBlock := by
  rcases hr.2 with ⟨rfl, _⟩ | ⟨g2, cap, cur, rfl, _, hgb, _⟩
  · simp [Value.ownBlock]
  · intro e'
    obtain rfl : g = g2 := by simpa [Value.ownBlock] using e'
    unfold Blk at h
    rw [h] at hgb
    cases hgb
    exact hte rfl
theorem ens_info : (Try.prog.info? 39).map (fun i => (i.zero, i.size, i.bytes)) = some (some (.slice none 0 0), 1, 24) := by kernel_rfl
set_option maxRecDepth 100000 in
set_option maxHeartbeats 8000000 in
theorem mpages_core (B : Option Addr) (m cB : Nat) (rows : List RoA) (t : Int) (w : World) (hz : MArg w B m cB rows) (ht : -9223372036854775808 ≤ t ∧ t ≤ 9223372036854775807) :
    Calls Try.prog 9 #[.agg #[.slice B m cB], .int .i64 t] w fun e w' => e = .returned (.bool true) ∧ Below w.heap.size w w' := by
  have HZ := hid hz
  have HT := hid ht
  have KY := hid (Blk.new w 24 #[.slice B m cB])
  have HB0 := hid ((Below.refl w.heap.size w).alloc (Nat.le_refl _) (.cells #[.slice B m cB] 24))
  clear hz ht
  go_enter Try.func9, Try.ntmps9
  go_wp2_with fail
  refine (wakes_22 _).mono ?_
  rintro e w1 ⟨rfl, hb1⟩
  replace KY := hid (KY.out.under hb1)
  have HB := hid (HB0.out.trans (hb1.mono (by simp)))
  have HOWN := hid ((own_22 B m cB rows w1 (MArg.below HZ.out HB.out)).mono fun e w' h => ownN h)
  have y0 : w1.cell? ⟨w.heap.size, 0, none⟩ = some (.slice B m cB) := KY.out.cell 0
  clear hb1 HB0 HZ
  go_wp2_with fail
  refine HOWN.out.mono ?_
  rintro e w2 ⟨ns, k, C, f, _, rfl, hman, hb2, ⟨hown, hfr⟩, hk9⟩
  obtain ⟨l, hl⟩ : ∃ l, l = ns.map RoA.d := ⟨_, rfl⟩
  have hb3 := (Below.refl w2.heap.size w2).alloc (Nat.le_refl _) (.cells #[.slice C k f] 24)
  have KM := hid (Blk.new w2 24 #[.slice C k f])
  have HM := hid (hman.below hb3)
  have HO := hid (show (w2.alloc (.cells #[.slice C k f] 24)).ownsRow w1.heap.size 42 7 (.slice C k f) k (ns.flatMap cellsR) ∧ ∀ x ∈ ns, RoFr (w2.alloc (.cells #[.slice C k f] 24)) x from ⟨hown.alloc _, fun x hx => (hfr x hx).below hb3⟩)
  have hw1 : w.heap.size ≤ w1.heap.size := HB.out.size
  replace HB := hid (HB.out.trans ((hb2.trans (hb3.mono hb2.size)).mono hw1))
  have HL := hid hl
  have HK9 := hid (show ns.length = k ∧ k ≤ 9 from ⟨hman.len, hk9⟩)
  obtain ⟨g, hg⟩ : ∃ g, g = w2.heap.size := ⟨_, rfl⟩
  rw [← hg] at KM
  have hgw : w1.heap.size ≤ g := by rw [hg]; exact hb2.size
  have HC := hid (Check_c C k f ns _ HM.out)
  rw [← hl] at HC
  have c0 : (w2.alloc (.cells #[.slice C k f] 24)).cell? ⟨w2.heap.size, 0, none⟩ = some (.slice C k f) := by rw [← hg]; exact KM.out.cell 0
  clear hb2 hb3 hown hfr hk9 hman HOWN KY y0 hl
  go_wp2_with fail
  refine HC.out.mono ?_
  rintro e w4 ⟨rfl, hb4⟩
  replace KM := hid (KM.out.under hb4)
  replace HM := hid (HM.out.below hb4)
  replace HO := hid (show w4.ownsRow w1.heap.size 42 7 (.slice C k f) k (ns.flatMap cellsR) ∧ ∀ x ∈ ns, RoFr w4 x from ⟨own_below HO.out.1 hb4, fun x hx => (HO.out.2 x hx).below hb4⟩)
  replace HB := hid (HB.out.trans (hb4.mono HB.out.size))
  rw [← hg]
  clear hb4 c0 HC hg
  cases hok : manOk l with
  | false =>
    have he : manE l = 320 := by unfold manE; rw [hok]; rfl
    rw [he]
    clear hok he
    go_wp2_with fail
    go_ret
    exact ⟨rfl, HB.out⟩
  | true =>
    have he : manE l = 0 := by unfold manE; rw [hok]; rfl
    rw [he]
    have HOK := hid hok
    clear hok he
    have c1 : w4.cell? ⟨g, 0, none⟩ = some (.slice C k f) := KM.out.cell 0
    go_wp2_with fail
    have HLW := hid (show w.heap.size ≤ w4.heap.size ∧ g < w4.heap.size from ⟨HB.out.size, KM.out.lt⟩)
    clear c1
    go_loopw [6, 7, 25] (fun u6 u7 u25 wr => ∃ (i : Nat) (D : Option Addr) (q s : Nat), i ≤ k ∧ u25 = .int .i64 (i : Nat) ∧ u6 = .slice D i q ∧ u7 = .int .i64 (s : Nat) ∧ Hid (s = (pgsR (l.take i)).length) ∧ Hid (wr.ownsRow w4.heap.size 39 1 (.slice D i q) i (((ns.take i).map rwOf).map cellW) ∧ Below w4.heap.size w4 wr)) (fun _ _ u25 _ => k - (intOf u25).toNat)
    case atStart => exact ⟨0, none, 0, 0, Nat.zero_le _, rfl, rfl, rfl, hid rfl, hid ⟨World.ownsRow_nil _ _ _ _, Below.refl _ _⟩⟩
    case round =>
      obtain ⟨i, D, q, s, hi, rfl, rfl, rfl, hs, hst⟩ := hrel
      have hsw : w4.heap.size ≤ wr.heap.size := hst.out.2.size
      have hs4 : s ≤ 1200000 := by
        have h1 := pgs_total HM.out
        have h2 := List.take_append_drop i l
        have h3 := congrArg (fun t : List Ro => (pgsR t).length) h2
        simp only [pgsR, List.flatMap_append, List.length_append] at h3
        have h4 := hs.out
        rw [← HL.out] at h1
        unfold pgsR at h1 h4
        omega
      by_cases hlt : i < k
      · obtain ⟨er, hrw⟩ := (HM.out.below hst.out.2).rows
        obtain ⟨ad, x, rfl, hx, hxl, c0, c1, c2, c3, c4, c5, c6⟩ := row_at hrw hlt
        have hxd : l[i]? = some x.d := by rw [HL.out, List.getElem?_map, hx]; rfl
        have HMR := hid (man_row HOK.out hxd)
        have HFR := hid (HO.out.2 x (List.mem_of_getElem? hx))
        have htl : l.take (i + 1) = l.take i ++ [x.d] := by rw [List.take_add_one, hxd]; rfl
        have htn : ns.take (i + 1) = ns.take i ++ [x] := by rw [List.take_add_one, hx]; rfl
        have HTL := hid (And.intro htl htn)
        have HPRE := hid (fun (j : Nat) (hj : i = j + 1) W (h : Below w4.heap.size w4 W) => (show ∃ nm, nmLt nm x.nm = true ∧ W.cell? (ad.add (j * 7)) = some (.string nm) by
          obtain ⟨er2, hrw2⟩ := (HM.out.below h).rows
          obtain ⟨ad2, y, ha, hy, _, d0, _⟩ := row_at hrw2 (show j < k by omega)
          cases ha
          refine ⟨y.nm, ?_, d0⟩
          exact HMR.out.2.2 y.d (by omega) (by rw [HL.out, List.getElem?_map, show i - 1 = j by omega, hy]; rfl)))
        have hltI : (i : Int) < (k : Int) := by omega
        have h0I : (0 : Int) ≤ (i : Int) := by omega
        have hk9 : i ≤ 9 := by have := HK9.out.2; omega
        obtain ⟨nm, ep, fl, la, sc, en, ea, ec, op, oa, oc⟩ := x
        obtain ⟨ne, hne⟩ : ∃ ne, ne = en.length := ⟨_, rfl⟩
        obtain ⟨no, hno⟩ : ∃ no, no = op.length := ⟨_, rfl⟩
        simp only at c0 c1 c2 c3 c4 c5 c6
        rw [← hne] at c5
        rw [← hno] at c6
        have HNE := hid hne
        have hno32 : (no : Int) < 32 := by have := HMR.out.2.1; rw [hno]; exact_mod_cast this
        have hne256 : ne ≤ 256 := by rw [hne]; exact HFR.out.henl
        have HX := hid hx
        clear hrw hx hxl hxd htl htn hne hno
        go_upto_region 11 with fail
        clear c0 c1 c2 c3 c4 c5 c6
        have hgr : wr.heap.size < (wr.alloc (.cells (aR nm ep fl la sc (.slice ea ne ec) (.slice oa no oc)) 42)).heap.size := by simp
        have KR := hid (Blk.new wr 42 (aR nm ep fl la sc (.slice ea ne ec) (.slice oa no oc)))
        have HB5 := hid ((Below.refl wr.heap.size wr).alloc (Nat.le_refl _) (.cells (aR nm ep fl la sc (.slice ea ne ec) (.slice oa no oc)) 42))
        have hB5 := hst.out.2.trans (HB5.out.mono hsw)
        have HOW := hid (hst.out.1.alloc (.cells (aR nm ep fl la sc (.slice ea ne ec) (.slice oa no oc)) 42))
        obtain ⟨gr, hgr0⟩ : ∃ gr, gr = wr.heap.size := ⟨_, rfl⟩
        obtain ⟨W5, hW5⟩ : ∃ W5, W5 = wr.alloc (.cells (aR nm ep fl la sc (.slice ea ne ec) (.slice oa no oc)) 42) := ⟨_, rfl⟩
        rw [← hgr0] at hsw KR
        rw [← hW5] at KR HOW hB5 hgr ⊢
        rw [← hgr0] at hgr ⊢
        have HB4 := hid hB5
        have HKM := hid (KM.out.under hB5)
        have HCK := hid (show Calls Try.prog 30 #[.slice ea ne ec] W5.drew (fun e w' => e = .returned (.int .i64 0) ∧ Below W5.drew.heap.size W5.drew w') by
          have h := ixCheck_c (w := W5.drew) (c := ec) (HFR.out.en.below hB5.drew) (fun y hy => ⟨⟨_, (HFR.out.ens y hy).below hB5.drew⟩, Nat.le_trans (HFR.out.pgl y hy) (by omega)⟩) (show en.length ≤ 100000 by have := HFR.out.henl; simp only at this; omega) (Nat.le_trans (HFR.out.inn).hpgs (by omega))
          have h0 : ixE (en.map Prod.fst) = 0 := by unfold ixE; exact if_pos HMR.out.1
          dsimp only at h
          rw [h0, ← HNE.out] at h
          exact h)
        have HG0 := hid hgr0
        clear hW5 hB5 HB5 hst hgr0
        by_cases hi0 : i = 0
        · have hgt : (0 < i) = False := by simp [hi0]
          have HI0 := hid hi0
          clear hi0
          have HS := hid (fun W (h : Below W5.heap.size W5 W) => (show W.cell? ⟨gr, 5, none⟩ = some (.slice ea ne ec) ∧ W.cell? ⟨gr, 6, none⟩ = some (.slice oa no oc) from ⟨(KR.out.under h).cell 5, (KR.out.under h).cell 6⟩))
          refine wp_region_noPanic ?_
          refine wp_region_held_drew (S := fun W => W.cell? ⟨gr, 5, none⟩ = some (.slice ea ne ec) ∧ W.cell? ⟨gr, 6, none⟩ = some (.slice oa no oc)) (by kernel_rfl) (HS.out _ (Below.refl _ _).drew) (fun hHeld => ?_)
          refine wpAnyH_take (i := 0) (v := ?_) rfl (by kernel_rfl) (by kernel_rfl) (by kernel_rfl) (fun _ _ _ h => h) (Or.inl ⟨by rfl, ?_⟩) (by assumption) ?_
          rotate_left
          · intro W hW
            go_simp
            try rfl
          simp only [List.getElem_toArray, List.getElem_cons_zero, Act.put, List.setIfInBounds_toArray, List.set_cons_zero, List.set_cons_succ]
          refine wpAnyH_take (i := 1) (v := ?_) rfl (by kernel_rfl) (by kernel_rfl) (by kernel_rfl) (fun _ _ _ h => h) (Or.inl ⟨by rfl, ?_⟩) (by assumption) ?_
          rotate_left
          · intro W hW
            go_simp
            try rfl
          simp only [List.getElem_toArray, List.getElem_cons_succ, List.getElem_cons_zero, Act.put, List.setIfInBounds_toArray, List.set_cons_zero, List.set_cons_succ]
          refine wpAnyH_take (i := 2) (v := ?_) rfl (by kernel_rfl) (by kernel_rfl) (by kernel_rfl) (fun _ _ _ h => h) (Or.inl ⟨by rfl, ?_⟩) (by assumption) ?_
          rotate_left
          · intro W hW
            go_simp
            try rfl
          simp only [List.getElem_toArray, List.getElem_cons_succ, List.getElem_cons_zero, Act.put, List.setIfInBounds_toArray, List.set_cons_zero, List.set_cons_succ]
          refine wpAnyH_take (i := 3) (v := undef) rfl (by kernel_rfl) (by kernel_rfl) (by kernel_rfl) (fun _ _ _ h => h) (Or.inr ⟨by rfl, rfl⟩) (by assumption) ?_
          simp only [List.getElem_toArray, List.getElem_cons_succ, List.getElem_cons_zero, Act.put, List.setIfInBounds_toArray, List.set_cons_zero, List.set_cons_succ]
          refine wpAnyH_take (i := 4) (v := undef) rfl (by kernel_rfl) (by kernel_rfl) (by kernel_rfl) (fun _ _ _ h => h) (Or.inr ⟨by rfl, rfl⟩) (by assumption) ?_
          simp only [List.getElem_toArray, List.getElem_cons_succ, List.getElem_cons_zero, Act.put, List.setIfInBounds_toArray, List.set_cons_zero, List.set_cons_succ]
          refine wpAnyH_take (i := 5) (v := undef) rfl (by kernel_rfl) (by kernel_rfl) (by kernel_rfl) (fun _ _ _ h => h) (Or.inr ⟨by rfl, rfl⟩) (by assumption) ?_
          simp only [List.getElem_toArray, List.getElem_cons_succ, List.getElem_cons_zero, Act.put, List.setIfInBounds_toArray, List.set_cons_zero, List.set_cons_succ]
          refine wpAnyH_take (i := 6) (v := undef) rfl (by kernel_rfl) (by kernel_rfl) (by kernel_rfl) (fun _ _ _ h => h) (Or.inr ⟨by rfl, rfl⟩) (by assumption) ?_
          simp only [List.getElem_toArray, List.getElem_cons_succ, List.getElem_cons_zero, Act.put, List.setIfInBounds_toArray, List.set_cons_zero, List.set_cons_succ]
          refine wpAnyH_take (i := 7) (v := undef) rfl (by kernel_rfl) (by kernel_rfl) (by kernel_rfl) (fun _ _ _ h => h) (Or.inr ⟨by rfl, rfl⟩) (by assumption) ?_
          simp only [List.getElem_toArray, List.getElem_cons_succ, List.getElem_cons_zero, Act.put, List.setIfInBounds_toArray, List.set_cons_zero, List.set_cons_succ]
          refine wpAnyH_take (i := 8) (v := undef) rfl (by kernel_rfl) (by kernel_rfl) (by kernel_rfl) (fun _ _ _ h => h) (Or.inr ⟨by rfl, rfl⟩) (by assumption) ?_
          simp only [List.getElem_toArray, List.getElem_cons_succ, List.getElem_cons_zero, Act.put, List.setIfInBounds_toArray, List.set_cons_zero, List.set_cons_succ]
          refine wpAnyH_take (i := 9) (v := undef) rfl (by kernel_rfl) (by kernel_rfl) (by kernel_rfl) (fun _ _ _ h => h) (Or.inr ⟨by rfl, rfl⟩) (by assumption) ?_
          simp only [List.getElem_toArray, List.getElem_cons_succ, List.getElem_cons_zero, Act.put, List.setIfInBounds_toArray, List.set_cons_zero, List.set_cons_succ]
          refine wpAnyH_take (i := 10) (v := undef) rfl (by kernel_rfl) (by kernel_rfl) (by kernel_rfl) (fun _ _ _ h => h) (Or.inr ⟨by rfl, rfl⟩) (by assumption) ?_
          simp only [List.getElem_toArray, List.getElem_cons_succ, List.getElem_cons_zero, Act.put, List.setIfInBounds_toArray, List.set_cons_zero, List.set_cons_succ]
          refine wpAnyH_take (i := 11) (v := undef) rfl (by kernel_rfl) (by kernel_rfl) (by kernel_rfl) (fun _ _ _ h => h) (Or.inr ⟨by rfl, rfl⟩) (by assumption) ?_
          simp only [List.getElem_toArray, List.getElem_cons_succ, List.getElem_cons_zero, Act.put, List.setIfInBounds_toArray, List.set_cons_zero, List.set_cons_succ]
          refine wpAnyH_take (i := 12) (v := undef) rfl (by kernel_rfl) (by kernel_rfl) (by kernel_rfl) (fun _ _ _ h => h) (Or.inr ⟨by rfl, rfl⟩) (by assumption) ?_
          simp only [List.getElem_toArray, List.getElem_cons_succ, List.getElem_cons_zero, Act.put, List.setIfInBounds_toArray, List.set_cons_zero, List.set_cons_succ]
          refine wpAnyH_take (i := 13) (v := ?_) rfl (by kernel_rfl) (by kernel_rfl) (by kernel_rfl) (fun _ _ _ h => h) (Or.inl ⟨by rfl, ?_⟩) (by assumption) ?_
          rotate_left
          · intro W hW
            go_simp
            try rfl
          simp only [List.getElem_toArray, List.getElem_cons_succ, List.getElem_cons_zero, Act.put, List.setIfInBounds_toArray, List.set_cons_zero, List.set_cons_succ]
          refine wpAnyH_take (i := 14) (v := ?_) rfl (by kernel_rfl) (by kernel_rfl) (by kernel_rfl) (fun _ _ _ h => h) (Or.inl ⟨by rfl, ?_⟩) (by assumption) ?_
          rotate_left
          · intro W hW
            go_simp
            try rfl
          simp only [List.getElem_toArray, List.getElem_cons_succ, List.getElem_cons_zero, Act.put, List.setIfInBounds_toArray, List.set_cons_zero, List.set_cons_succ]
          refine wpAnyH_take (i := 15) (v := ?_) rfl (by kernel_rfl) (by kernel_rfl) (by kernel_rfl) (fun _ _ _ h => h) (Or.inl ⟨by rfl, ?_⟩) (by assumption) ?_
          rotate_left
          · intro W hW
            go_simp
            try rfl
          simp only [List.getElem_toArray, List.getElem_cons_succ, List.getElem_cons_zero, Act.put, List.setIfInBounds_toArray, List.set_cons_zero, List.set_cons_succ]
          refine wpAnyH_take (i := 16) (v := ?_) rfl (by kernel_rfl) (by kernel_rfl) (by kernel_rfl) (fun _ _ _ h => h) (Or.inl ⟨by rfl, ?_⟩) (by assumption) ?_
          rotate_left
          · intro W hW
            go_simp
            try rfl
          simp only [List.getElem_toArray, List.getElem_cons_succ, List.getElem_cons_zero, Act.put, List.setIfInBounds_toArray, List.set_cons_zero, List.set_cons_succ]
          refine wpAnyH_ready (rs := [17]) (by kernel_rfl) (by simp) ?_
          refine AllReadyH.cons rfl (fun K hK => ?_) AllReadyH.nil
          go_simp
          refine HCK.out.mono ?_
          rintro e w6 ⟨rfl, hb6⟩
          refine hK.out _ _ (HS.out _ (undrewP hb6)) (fun hHeld => ?_)
          clear hK K
          try simp only [List.getElem_toArray, List.getElem_cons_succ, List.getElem_cons_zero, Act.put, List.setIfInBounds_toArray, List.set_cons_zero, List.set_cons_succ]
          refine wpAnyH_take (i := 18) (v := ?_) rfl (by kernel_rfl) (by kernel_rfl) (by kernel_rfl) (fun _ _ _ h => h) (Or.inl ⟨by rfl, ?_⟩) (by assumption) ?_
          rotate_left
          · intro W hW
            go_simp
            try rfl
          simp only [List.getElem_toArray, List.getElem_cons_succ, List.getElem_cons_zero, Act.put, List.setIfInBounds_toArray, List.set_cons_zero, List.set_cons_succ]
          refine wpAnyH_take (i := 19) (v := ?_) rfl (by kernel_rfl) (by kernel_rfl) (by kernel_rfl) (fun _ _ _ h => h) (Or.inl ⟨by rfl, ?_⟩) (by assumption) ?_
          rotate_left
          · intro W hW
            go_simp
            try rfl
          simp only [List.getElem_toArray, List.getElem_cons_succ, List.getElem_cons_zero, Act.put, List.setIfInBounds_toArray, List.set_cons_zero, List.set_cons_succ]
          refine wpAnyH_take (i := 20) (v := ?_) rfl (by kernel_rfl) (by kernel_rfl) (by kernel_rfl) (fun _ _ _ h => h) (Or.inl ⟨by rfl, ?_⟩) (by assumption) ?_
          rotate_left
          · intro W hW
            go_simp
            try rfl
          simp only [List.getElem_toArray, List.getElem_cons_succ, List.getElem_cons_zero, Act.put, List.setIfInBounds_toArray, List.set_cons_zero, List.set_cons_succ]
          refine wpAnyH_take (i := 21) (v := ?_) rfl (by kernel_rfl) (by kernel_rfl) (by kernel_rfl) (fun _ _ _ h => h) (Or.inl ⟨by rfl, ?_⟩) (by assumption) ?_
          rotate_left
          · intro W hW
            go_simp
            try rfl
          simp only [List.getElem_toArray, List.getElem_cons_succ, List.getElem_cons_zero, Act.put, List.setIfInBounds_toArray, List.set_cons_zero, List.set_cons_succ]
          refine wpAnyH_take (i := 22) (v := ?_) rfl (by kernel_rfl) (by kernel_rfl) (by kernel_rfl) (fun _ _ _ h => h) (Or.inl ⟨by rfl, ?_⟩) (by assumption) ?_
          rotate_left
          · intro W hW
            go_simp
            try rfl
          simp only [List.getElem_toArray, List.getElem_cons_succ, List.getElem_cons_zero, Act.put, List.setIfInBounds_toArray, List.set_cons_zero, List.set_cons_succ]
          refine wpAnyH_take (i := 23) (v := ?_) rfl (by kernel_rfl) (by kernel_rfl) (by kernel_rfl) (fun _ _ _ h => h) (Or.inl ⟨by rfl, ?_⟩) (by assumption) ?_
          rotate_left
          · intro W hW
            go_simp
            try rfl
          simp only [List.getElem_toArray, List.getElem_cons_succ, List.getElem_cons_zero, Act.put, List.setIfInBounds_toArray, List.set_cons_zero, List.set_cons_succ]
          refine wpAnyH_take (i := 24) (v := ?_) rfl (by kernel_rfl) (by kernel_rfl) (by kernel_rfl) (fun _ _ _ h => h) (Or.inl ⟨by rfl, ?_⟩) (by assumption) ?_
          rotate_left
          · intro W hW
            go_simp
            try rfl
          simp only [List.getElem_toArray, List.getElem_cons_succ, List.getElem_cons_zero, Act.put, List.setIfInBounds_toArray, List.set_cons_zero, List.set_cons_succ]
          refine wpAnyH_take (i := 25) (v := ?_) rfl (by kernel_rfl) (by kernel_rfl) (by kernel_rfl) (fun _ _ _ h => h) (Or.inl ⟨by rfl, ?_⟩) (by assumption) ?_
          rotate_left
          · intro W hW
            go_simp
            try rfl
          simp only [List.getElem_toArray, List.getElem_cons_succ, List.getElem_cons_zero, Act.put, List.setIfInBounds_toArray, List.set_cons_zero, List.set_cons_succ]
          refine wpAnyH_done (by kernel_rfl) ?_ _
          refine NoPanic.normal ?_
          have HB6 := hid (HB4.out.trans ((undrewP hb6).mono HB4.out.size))
          have HR6 := hid (KR.out.under (undrewP hb6))
          have HW6 := hid (own_below HOW.out (undrewP hb6))
          clear hb6 HS hHeld HCK KR HOW HB4 HKM hgt HPRE hgr
          have e5 : w6.cell? ⟨gr, 5, none⟩ = some (.slice ea ne ec) := HR6.out.cell 5
          go_wp2_with (at_builtin; refine wpList_pushG rfl (.tmp 56) (.tmp 59) 56 rfl w4.heap.size 39 (.slice none 0 0) 24 Try.underlying56 ens_info rfl D i q _ rfl HW6.out rfl rfl (by omega) (by omega) HB6.out.size ?_; intro D2 q2 w7 hown7 hgr7 hb7; have e7 : w7.cell? ⟨gr, 5, none⟩ = some (.slice ea ne ec) := (HR6.out.grown hgr7 (HR6.out.not_row (by decide) HW6.out)).cell 5)
          have HB7 := hid (HB6.out.trans hb7)
          have HW7 := hid hown7
          clear hb7 hown7 hgr7 HB6 HR6 HW6 e5 e7
          go_loopw [7, 64] (fun u7 u64 wi => ∃ (j s2 : Nat), j ≤ ne ∧ u64 = .int .i64 (j : Nat) ∧ u7 = .int .i64 (s2 : Nat) ∧ Hid (s2 = s + (pgsA (en.take j)).length) ∧ Hid (wi.ownsRow w4.heap.size 39 1 (.slice D2 (i + 1) q2) (i + 1) (((ns.take i).map rwOf).map cellW ++ [.slice ea ne ec]) ∧ Below w4.heap.size w4 wi)) (fun _ u64 _ => ne - (intOf u64).toNat)
          case atStart => exact ⟨0, s, Nat.zero_le _, rfl, rfl, hid (by simp [pgsA]), hid ⟨HW7.out, HB7.out⟩⟩
          case round =>
            obtain ⟨j, s2, hj, rfl, rfl, hs2, hst⟩ := hrel
            have hpg : (pgsA (en.take j)).length ≤ 70000 := by
              have h1 := HFR.out.inn.hpgs
              have h2 := congrArg (fun t : List EnA => (pgsA t).length) (List.take_append_drop j en)
              simp only [pgsA_app, List.length_append] at h2
              simp only at h1
              omega
            have hs5 : s2 ≤ 1300000 := by have := hs2.out; omega
            by_cases hlt2 : j < ne
            · obtain ⟨ed, y, hea, hy, hyl, d0, d1, d2, d3, d4⟩ := en_at (n := ne) (by rw [HNE.out]; exact HFR.out.en.below hst.out.2) hlt2
              have htj : en.take (j + 1) = en.take j ++ [y] := by
                rw [List.take_succ_eq_append_getElem hyl, (List.getElem?_eq_some_iff.1 hy).2]
              have hpl : y.1.ps.length ≤ 256 := HFR.out.pgl y (List.mem_of_getElem? hy)
              have hs3 : s2 + y.1.ps.length = s + (pgsA (en.take (j + 1))).length := by
                rw [htj, pgsA_app, List.length_append, hs2.out]
                simp [pgsA]; omega
              obtain ⟨⟨fs, ls, ct, by_, ps⟩, pa, pc⟩ := y
              simp only at d0 d1 d2 d3 d4 hpl hs3
              obtain ⟨pn, hpn⟩ : ∃ pn, pn = ps.length := ⟨_, rfl⟩
              rw [← hpn] at d3 hpl hs3
              have HS3 := hid hs3
              have hjI : (j : Int) < (ne : Int) := by omega
              have hj0 : (0 : Int) ≤ (j : Int) := by omega
              have HN := hid (show (wr.alloc (.cells #[.int .i64 fs, .int .i64 ls, .int .i64 ct, .slice pa pn pc, .int .i64 by_] 45)).ownsRow w4.heap.size 39 1 (.slice D2 (i + 1) q2) (i + 1) (((ns.take i).map rwOf).map cellW ++ [.slice ea ne ec]) ∧ Below w4.heap.size w4 (wr.alloc (.cells #[.int .i64 fs, .int .i64 ls, .int .i64 ct, .slice pa pn pc, .int .i64 by_] 45)) from ⟨hst.out.1.alloc _, hst.out.2.alloc hst.out.2.size _⟩)
              clear hy hyl htj hs3 hpn hst hpg hs2
              subst hea
              go_wp2_with fail
              go_roundw
              case rel => exact ⟨j + 1, s2 + pn, by omega, by go_num, by go_num, HS3, HN⟩
              case measure => simp [intOf]; omega
            · obtain rfl : j = ne := by omega
              have HN := hid (show (s2 = (pgsR (l.take (i + 1))).length) ∧ (((ns.take (i + 1)).map rwOf).map cellW = ((ns.take i).map rwOf).map cellW ++ [.slice ea j ec]) by
                rw [HTL.out.1, HTL.out.2, HNE.out]
                refine ⟨?_, by rw [List.map_append, List.map_append]; rfl⟩
                have e1 : pgsR (l.take i ++ [(⟨nm, ep, fl, la, sc, en, ea, ec, op, oa, oc⟩ : RoA).d]) = pgsR (l.take i) ++ pgsA en := by
                  unfold pgsR
                  rw [List.flatMap_append, List.flatMap_singleton]
                  congr 1
                  unfold RoA.d pgsA
                  simp only [List.flatMap_map]
                rw [e1, List.length_append, ← hs.out, hs2.out, List.take_of_length_le (Nat.le_of_eq HNE.out.symm)])
              have HST := hid (show wr.ownsRow w4.heap.size 39 1 (.slice D2 (i + 1) q2) (i + 1) (((ns.take (i + 1)).map rwOf).map cellW) ∧ Below w4.heap.size w4 wr by rw [HN.out.2]; exact hst.out)
              clear hst hpg hs2 hlt2
              go_wp2_with fail
              go_roundw
              case rel => exact ⟨i + 1, D2, q2, s2, by omega, by go_num, rfl, rfl, hid HN.out.1, HST⟩
              case measure => simp [intOf]; omega
        · obtain ⟨j, hj⟩ : ∃ j, i = j + 1 := ⟨i - 1, by omega⟩
          obtain ⟨pn, hpn, hp0⟩ := HPRE.out j hj W5 HB4.out
          have hgt : (0 < i) = True := by simp; omega
          have hjw : IntKind.i64.wrap ((i : Int) - 1) = (j : Int) := by rw [IntKind.wrap_i64]; omega
          have hj0 : (0 : Int) ≤ (j : Int) := by omega
          have hjn : (j : Int) < (k : Int) := by omega
          have hlt3 : Op.bytesLess pn.toList nm.toList = true := hpn
          have HS := hid (fun W (h : Below W5.heap.size W5 W) => (show W.cell? ⟨gr, 0, none⟩ = some (.string nm) ∧ W.cell? ⟨gr, 5, none⟩ = some (.slice ea ne ec) ∧ W.cell? ⟨gr, 6, none⟩ = some (.slice oa no oc) ∧ W.cell? ⟨g, 0, none⟩ = some (.slice (some ad) k f) ∧ W.cell? (ad.add (j * 7)) = some (.string pn) from ⟨(KR.out.under h).cell 0, (KR.out.under h).cell 5, (KR.out.under h).cell 6, (HKM.out.under h).cell 0, by rw [h.cell (World.block_lt_of_cell? _ _ hp0)]; exact hp0⟩))
          clear hi0 hj hpn hp0
          refine wp_region_noPanic ?_
          refine wp_region_held_drew (S := fun W => W.cell? ⟨gr, 0, none⟩ = some (.string nm) ∧ W.cell? ⟨gr, 5, none⟩ = some (.slice ea ne ec) ∧ W.cell? ⟨gr, 6, none⟩ = some (.slice oa no oc) ∧ W.cell? ⟨g, 0, none⟩ = some (.slice (some ad) k f) ∧ W.cell? (ad.add (j * 7)) = some (.string pn)) (by kernel_rfl) (HS.out _ (Below.refl _ _).drew) (fun hHeld => ?_)
          refine wpAnyH_take (i := 0) (v := ?_) rfl (by kernel_rfl) (by kernel_rfl) (by kernel_rfl) (fun _ _ _ h => h) (Or.inl ⟨by rfl, ?_⟩) (by assumption) ?_
          rotate_left
          · intro W hW
            go_simp
            try rfl
          simp only [List.getElem_toArray, List.getElem_cons_zero, Act.put, List.setIfInBounds_toArray, List.set_cons_zero, List.set_cons_succ]
          refine wpAnyH_take (i := 1) (v := ?_) rfl (by kernel_rfl) (by kernel_rfl) (by kernel_rfl) (fun _ _ _ h => h) (Or.inl ⟨by rfl, ?_⟩) (by assumption) ?_
          rotate_left
          · intro W hW
            go_simp
            try rfl
          simp only [List.getElem_toArray, List.getElem_cons_succ, List.getElem_cons_zero, Act.put, List.setIfInBounds_toArray, List.set_cons_zero, List.set_cons_succ]
          refine wpAnyH_take (i := 2) (v := ?_) rfl (by kernel_rfl) (by kernel_rfl) (by kernel_rfl) (fun _ _ _ h => h) (Or.inl ⟨by rfl, ?_⟩) (by assumption) ?_
          rotate_left
          · intro W hW
            go_simp
            try rfl
          simp only [List.getElem_toArray, List.getElem_cons_succ, List.getElem_cons_zero, Act.put, List.setIfInBounds_toArray, List.set_cons_zero, List.set_cons_succ]
          refine wpAnyH_take (i := 3) (v := ?_) rfl (by kernel_rfl) (by kernel_rfl) (by kernel_rfl) (fun _ _ _ h => h) (Or.inl ⟨by rfl, ?_⟩) (by assumption) ?_
          rotate_left
          · intro W hW
            go_simp
            try rfl
          simp only [List.getElem_toArray, List.getElem_cons_succ, List.getElem_cons_zero, Act.put, List.setIfInBounds_toArray, List.set_cons_zero, List.set_cons_succ]
          refine wpAnyH_take (i := 4) (v := ?_) rfl (by kernel_rfl) (by kernel_rfl) (by kernel_rfl) (fun _ _ _ h => h) (Or.inl ⟨by rfl, ?_⟩) (by assumption) ?_
          rotate_left
          · intro W hW
            go_simp
            try rfl
          simp only [List.getElem_toArray, List.getElem_cons_succ, List.getElem_cons_zero, Act.put, List.setIfInBounds_toArray, List.set_cons_zero, List.set_cons_succ]
          refine wpAnyH_take (i := 5) (v := ?_) rfl (by kernel_rfl) (by kernel_rfl) (by kernel_rfl) (fun _ _ _ h => h) (Or.inl ⟨by rfl, ?_⟩) (by assumption) ?_
          rotate_left
          · intro W hW
            go_simp
            try rfl
          simp only [List.getElem_toArray, List.getElem_cons_succ, List.getElem_cons_zero, Act.put, List.setIfInBounds_toArray, List.set_cons_zero, List.set_cons_succ]
          refine wpAnyH_take (i := 6) (v := ?_) rfl (by kernel_rfl) (by kernel_rfl) (by kernel_rfl) (fun _ _ _ h => h) (Or.inl ⟨by rfl, ?_⟩) (by assumption) ?_
          rotate_left
          · intro W hW
            go_simp
            try rfl
          simp only [List.getElem_toArray, List.getElem_cons_succ, List.getElem_cons_zero, Act.put, List.setIfInBounds_toArray, List.set_cons_zero, List.set_cons_succ]
          refine wpAnyH_take (i := 7) (v := ?_) rfl (by kernel_rfl) (by kernel_rfl) (by kernel_rfl) (fun _ _ _ h => h) (Or.inl ⟨by rfl, ?_⟩) (by assumption) ?_
          rotate_left
          · intro W hW
            go_simp
            try rfl
          simp only [List.getElem_toArray, List.getElem_cons_succ, List.getElem_cons_zero, Act.put, List.setIfInBounds_toArray, List.set_cons_zero, List.set_cons_succ]
          refine wpAnyH_take (i := 8) (v := ?_) rfl (by kernel_rfl) (by kernel_rfl) (by kernel_rfl) (fun _ _ _ h => h) (Or.inl ⟨by rfl, ?_⟩) (by assumption) ?_
          rotate_left
          · intro W hW
            go_simp
            try rfl
          simp only [List.getElem_toArray, List.getElem_cons_succ, List.getElem_cons_zero, Act.put, List.setIfInBounds_toArray, List.set_cons_zero, List.set_cons_succ]
          refine wpAnyH_take (i := 9) (v := ?_) rfl (by kernel_rfl) (by kernel_rfl) (by kernel_rfl) (fun _ _ _ h => h) (Or.inl ⟨by rfl, ?_⟩) (by assumption) ?_
          rotate_left
          · intro W hW
            go_simp
            try rfl
          simp only [List.getElem_toArray, List.getElem_cons_succ, List.getElem_cons_zero, Act.put, List.setIfInBounds_toArray, List.set_cons_zero, List.set_cons_succ]
          refine wpAnyH_take (i := 10) (v := ?_) rfl (by kernel_rfl) (by kernel_rfl) (by kernel_rfl) (fun _ _ _ h => h) (Or.inl ⟨by rfl, ?_⟩) (by assumption) ?_
          rotate_left
          · intro W hW
            go_simp
            try rfl
          simp only [List.getElem_toArray, List.getElem_cons_succ, List.getElem_cons_zero, Act.put, List.setIfInBounds_toArray, List.set_cons_zero, List.set_cons_succ]
          refine wpAnyH_take (i := 11) (v := ?_) rfl (by kernel_rfl) (by kernel_rfl) (by kernel_rfl) (fun _ _ _ h => h) (Or.inl ⟨by rfl, ?_⟩) (by assumption) ?_
          rotate_left
          · intro W hW
            go_simp
            try rfl
          simp only [List.getElem_toArray, List.getElem_cons_succ, List.getElem_cons_zero, Act.put, List.setIfInBounds_toArray, List.set_cons_zero, List.set_cons_succ]
          refine wpAnyH_take (i := 12) (v := ?_) rfl (by kernel_rfl) (by kernel_rfl) (by kernel_rfl) (fun _ _ _ h => h) (Or.inl ⟨by rfl, ?_⟩) (by assumption) ?_
          rotate_left
          · intro W hW
            go_simp
            try rfl
          simp only [List.getElem_toArray, List.getElem_cons_succ, List.getElem_cons_zero, Act.put, List.setIfInBounds_toArray, List.set_cons_zero, List.set_cons_succ]
          refine wpAnyH_take (i := 13) (v := ?_) rfl (by kernel_rfl) (by kernel_rfl) (by kernel_rfl) (fun _ _ _ h => h) (Or.inl ⟨by rfl, ?_⟩) (by assumption) ?_
          rotate_left
          · intro W hW
            go_simp
            try rfl
          simp only [List.getElem_toArray, List.getElem_cons_succ, List.getElem_cons_zero, Act.put, List.setIfInBounds_toArray, List.set_cons_zero, List.set_cons_succ]
          refine wpAnyH_take (i := 14) (v := ?_) rfl (by kernel_rfl) (by kernel_rfl) (by kernel_rfl) (fun _ _ _ h => h) (Or.inl ⟨by rfl, ?_⟩) (by assumption) ?_
          rotate_left
          · intro W hW
            go_simp
            try rfl
          simp only [List.getElem_toArray, List.getElem_cons_succ, List.getElem_cons_zero, Act.put, List.setIfInBounds_toArray, List.set_cons_zero, List.set_cons_succ]
          refine wpAnyH_take (i := 15) (v := ?_) rfl (by kernel_rfl) (by kernel_rfl) (by kernel_rfl) (fun _ _ _ h => h) (Or.inl ⟨by rfl, ?_⟩) (by assumption) ?_
          rotate_left
          · intro W hW
            go_simp
            try rfl
          simp only [List.getElem_toArray, List.getElem_cons_succ, List.getElem_cons_zero, Act.put, List.setIfInBounds_toArray, List.set_cons_zero, List.set_cons_succ]
          refine wpAnyH_take (i := 16) (v := ?_) rfl (by kernel_rfl) (by kernel_rfl) (by kernel_rfl) (fun _ _ _ h => h) (Or.inl ⟨by rfl, ?_⟩) (by assumption) ?_
          rotate_left
          · intro W hW
            go_simp
            try rfl
          simp only [List.getElem_toArray, List.getElem_cons_succ, List.getElem_cons_zero, Act.put, List.setIfInBounds_toArray, List.set_cons_zero, List.set_cons_succ]
          refine wpAnyH_ready (rs := [17]) (by kernel_rfl) (by simp) ?_
          refine AllReadyH.cons rfl (fun K hK => ?_) AllReadyH.nil
          go_simp
          refine HCK.out.mono ?_
          rintro e w6 ⟨rfl, hb6⟩
          refine hK.out _ _ (HS.out _ (undrewP hb6)) (fun hHeld => ?_)
          clear hK K
          try simp only [List.getElem_toArray, List.getElem_cons_succ, List.getElem_cons_zero, Act.put, List.setIfInBounds_toArray, List.set_cons_zero, List.set_cons_succ]
          refine wpAnyH_take (i := 18) (v := ?_) rfl (by kernel_rfl) (by kernel_rfl) (by kernel_rfl) (fun _ _ _ h => h) (Or.inl ⟨by rfl, ?_⟩) (by assumption) ?_
          rotate_left
          · intro W hW
            go_simp
            try rfl
          simp only [List.getElem_toArray, List.getElem_cons_succ, List.getElem_cons_zero, Act.put, List.setIfInBounds_toArray, List.set_cons_zero, List.set_cons_succ]
          refine wpAnyH_take (i := 19) (v := ?_) rfl (by kernel_rfl) (by kernel_rfl) (by kernel_rfl) (fun _ _ _ h => h) (Or.inl ⟨by rfl, ?_⟩) (by assumption) ?_
          rotate_left
          · intro W hW
            go_simp
            try rfl
          simp only [List.getElem_toArray, List.getElem_cons_succ, List.getElem_cons_zero, Act.put, List.setIfInBounds_toArray, List.set_cons_zero, List.set_cons_succ]
          refine wpAnyH_take (i := 20) (v := ?_) rfl (by kernel_rfl) (by kernel_rfl) (by kernel_rfl) (fun _ _ _ h => h) (Or.inl ⟨by rfl, ?_⟩) (by assumption) ?_
          rotate_left
          · intro W hW
            go_simp
            try rfl
          simp only [List.getElem_toArray, List.getElem_cons_succ, List.getElem_cons_zero, Act.put, List.setIfInBounds_toArray, List.set_cons_zero, List.set_cons_succ]
          refine wpAnyH_take (i := 21) (v := ?_) rfl (by kernel_rfl) (by kernel_rfl) (by kernel_rfl) (fun _ _ _ h => h) (Or.inl ⟨by rfl, ?_⟩) (by assumption) ?_
          rotate_left
          · intro W hW
            go_simp
            try rfl
          simp only [List.getElem_toArray, List.getElem_cons_succ, List.getElem_cons_zero, Act.put, List.setIfInBounds_toArray, List.set_cons_zero, List.set_cons_succ]
          refine wpAnyH_take (i := 22) (v := ?_) rfl (by kernel_rfl) (by kernel_rfl) (by kernel_rfl) (fun _ _ _ h => h) (Or.inl ⟨by rfl, ?_⟩) (by assumption) ?_
          rotate_left
          · intro W hW
            go_simp
            try rfl
          simp only [List.getElem_toArray, List.getElem_cons_succ, List.getElem_cons_zero, Act.put, List.setIfInBounds_toArray, List.set_cons_zero, List.set_cons_succ]
          refine wpAnyH_take (i := 23) (v := ?_) rfl (by kernel_rfl) (by kernel_rfl) (by kernel_rfl) (fun _ _ _ h => h) (Or.inl ⟨by rfl, ?_⟩) (by assumption) ?_
          rotate_left
          · intro W hW
            go_simp
            try rfl
          simp only [List.getElem_toArray, List.getElem_cons_succ, List.getElem_cons_zero, Act.put, List.setIfInBounds_toArray, List.set_cons_zero, List.set_cons_succ]
          refine wpAnyH_take (i := 24) (v := ?_) rfl (by kernel_rfl) (by kernel_rfl) (by kernel_rfl) (fun _ _ _ h => h) (Or.inl ⟨by rfl, ?_⟩) (by assumption) ?_
          rotate_left
          · intro W hW
            go_simp
            try rfl
          simp only [List.getElem_toArray, List.getElem_cons_succ, List.getElem_cons_zero, Act.put, List.setIfInBounds_toArray, List.set_cons_zero, List.set_cons_succ]
          refine wpAnyH_take (i := 25) (v := ?_) rfl (by kernel_rfl) (by kernel_rfl) (by kernel_rfl) (fun _ _ _ h => h) (Or.inl ⟨by rfl, ?_⟩) (by assumption) ?_
          rotate_left
          · intro W hW
            go_simp
            try rfl
          simp only [List.getElem_toArray, List.getElem_cons_succ, List.getElem_cons_zero, Act.put, List.setIfInBounds_toArray, List.set_cons_zero, List.set_cons_succ]
          refine wpAnyH_done (by kernel_rfl) ?_ _
          refine NoPanic.normal ?_
          have HB6 := hid (HB4.out.trans ((undrewP hb6).mono HB4.out.size))
          have HR6 := hid (KR.out.under (undrewP hb6))
          have HW6 := hid (own_below HOW.out (undrewP hb6))
          clear hb6 HS hHeld HCK KR HOW HB4 HKM hgt HPRE hgr
          have e5 : w6.cell? ⟨gr, 5, none⟩ = some (.slice ea ne ec) := HR6.out.cell 5
          go_wp2_with (at_builtin; refine wpList_pushG rfl (.tmp 56) (.tmp 59) 56 rfl w4.heap.size 39 (.slice none 0 0) 24 Try.underlying56 ens_info rfl D i q _ rfl HW6.out rfl rfl (by omega) (by omega) HB6.out.size ?_; intro D2 q2 w7 hown7 hgr7 hb7; have e7 : w7.cell? ⟨gr, 5, none⟩ = some (.slice ea ne ec) := (HR6.out.grown hgr7 (HR6.out.not_row (by decide) HW6.out)).cell 5)
          have HB7 := hid (HB6.out.trans hb7)
          have HW7 := hid hown7
          clear hb7 hown7 hgr7 HB6 HR6 HW6 e5 e7
          go_loopw [7, 64] (fun u7 u64 wi => ∃ (j s2 : Nat), j ≤ ne ∧ u64 = .int .i64 (j : Nat) ∧ u7 = .int .i64 (s2 : Nat) ∧ Hid (s2 = s + (pgsA (en.take j)).length) ∧ Hid (wi.ownsRow w4.heap.size 39 1 (.slice D2 (i + 1) q2) (i + 1) (((ns.take i).map rwOf).map cellW ++ [.slice ea ne ec]) ∧ Below w4.heap.size w4 wi)) (fun _ u64 _ => ne - (intOf u64).toNat)
          case atStart => exact ⟨0, s, Nat.zero_le _, rfl, rfl, hid (by simp [pgsA]), hid ⟨HW7.out, HB7.out⟩⟩
          case round =>
            obtain ⟨j, s2, hj, rfl, rfl, hs2, hst⟩ := hrel
            have hpg : (pgsA (en.take j)).length ≤ 70000 := by
              have h1 := HFR.out.inn.hpgs
              have h2 := congrArg (fun t : List EnA => (pgsA t).length) (List.take_append_drop j en)
              simp only [pgsA_app, List.length_append] at h2
              simp only at h1
              omega
            have hs5 : s2 ≤ 1300000 := by have := hs2.out; omega
            by_cases hlt2 : j < ne
            · obtain ⟨ed, y, hea, hy, hyl, d0, d1, d2, d3, d4⟩ := en_at (n := ne) (by rw [HNE.out]; exact HFR.out.en.below hst.out.2) hlt2
              have htj : en.take (j + 1) = en.take j ++ [y] := by
                rw [List.take_succ_eq_append_getElem hyl, (List.getElem?_eq_some_iff.1 hy).2]
              have hpl : y.1.ps.length ≤ 256 := HFR.out.pgl y (List.mem_of_getElem? hy)
              have hs3 : s2 + y.1.ps.length = s + (pgsA (en.take (j + 1))).length := by
                rw [htj, pgsA_app, List.length_append, hs2.out]
                simp [pgsA]; omega
              obtain ⟨⟨fs, ls, ct, by_, ps⟩, pa, pc⟩ := y
              simp only at d0 d1 d2 d3 d4 hpl hs3
              obtain ⟨pn, hpn⟩ : ∃ pn, pn = ps.length := ⟨_, rfl⟩
              rw [← hpn] at d3 hpl hs3
              have HS3 := hid hs3
              have hjI : (j : Int) < (ne : Int) := by omega
              have hj0 : (0 : Int) ≤ (j : Int) := by omega
              have HN := hid (show (wr.alloc (.cells #[.int .i64 fs, .int .i64 ls, .int .i64 ct, .slice pa pn pc, .int .i64 by_] 45)).ownsRow w4.heap.size 39 1 (.slice D2 (i + 1) q2) (i + 1) (((ns.take i).map rwOf).map cellW ++ [.slice ea ne ec]) ∧ Below w4.heap.size w4 (wr.alloc (.cells #[.int .i64 fs, .int .i64 ls, .int .i64 ct, .slice pa pn pc, .int .i64 by_] 45)) from ⟨hst.out.1.alloc _, hst.out.2.alloc hst.out.2.size _⟩)
              clear hy hyl htj hs3 hpn hst hpg hs2
              subst hea
              go_wp2_with fail
              go_roundw
              case rel => exact ⟨j + 1, s2 + pn, by omega, by go_num, by go_num, HS3, HN⟩
              case measure => simp [intOf]; omega
            · obtain rfl : j = ne := by omega
              have HN := hid (show (s2 = (pgsR (l.take (i + 1))).length) ∧ (((ns.take (i + 1)).map rwOf).map cellW = ((ns.take i).map rwOf).map cellW ++ [.slice ea j ec]) by
                rw [HTL.out.1, HTL.out.2, HNE.out]
                refine ⟨?_, by rw [List.map_append, List.map_append]; rfl⟩
                have e1 : pgsR (l.take i ++ [(⟨nm, ep, fl, la, sc, en, ea, ec, op, oa, oc⟩ : RoA).d]) = pgsR (l.take i) ++ pgsA en := by
                  unfold pgsR
                  rw [List.flatMap_append, List.flatMap_singleton]
                  congr 1
                  unfold RoA.d pgsA
                  simp only [List.flatMap_map]
                rw [e1, List.length_append, ← hs.out, hs2.out, List.take_of_length_le (Nat.le_of_eq HNE.out.symm)])
              have HST := hid (show wr.ownsRow w4.heap.size 39 1 (.slice D2 (i + 1) q2) (i + 1) (((ns.take (i + 1)).map rwOf).map cellW) ∧ Below w4.heap.size w4 wr by rw [HN.out.2]; exact hst.out)
              clear hst hpg hs2 hlt2
              go_wp2_with fail
              go_roundw
              case rel => exact ⟨i + 1, D2, q2, s2, by omega, by go_num, rfl, rfl, hid HN.out.1, HST⟩
              case measure => simp [intOf]; omega
      · obtain rfl : i = k := by omega
        have hlk : l.length = i := by have := HK9.out.1; rw [HL.out, List.length_map]; exact this
        have hall : allP (ns.map rwOf) = pgsR l := by rw [allP_rw, HL.out]
        have hpi : PgIn wr D i q (ns.map rwOf) := by
          refine ⟨⟨_, by have h := Reads.of_own hst.out.1; rw [List.take_of_length_le (Nat.le_of_eq HK9.out.1)] at h; exact h⟩, ?_, by have := HK9.out.2; omega⟩
          intro y hy
          obtain ⟨x, hx, rfl⟩ := List.mem_map.1 hy
          have hf := (HO.out.2 x hx).below hst.out.2
          exact ⟨⟨_, hf.en⟩, fun e he => ⟨⟨_, hf.ens e he⟩, Nat.le_trans (hf.pgl e he) (by omega)⟩, Nat.le_trans hf.henl (by omega)⟩
        have HPG := hid ((Pages_c D i q (ns.map rwOf) wr hpi).mono (R' := fun e w' => ∃ (f2 : Nat) (C2 : Option Addr), e = .returned (.slice C2 s f2) ∧ Below wr.heap.size wr w') fun e w' h => by
          obtain ⟨k2, f2, C2, h1, h2, h3, h4⟩ := h
          rw [hall, man_pages HOK.out] at h1
          have h5 := hs.out
          rw [List.take_of_length_le (Nat.le_of_eq hlk)] at h5
          rw [h1, ← h5] at h2
          exact ⟨f2, C2, h2, h4⟩)
        have HBW := hid hst.out.2
        clear hpi hall hst hlt hs hlk
        go_wp2_with fail
        refine HPG.out.mono ?_
        rintro e w8 ⟨f2, C2, rfl, hb8⟩
        have HB8 := hid (HBW.out.trans (hb8.mono hsw))
        clear hb8 HPG HBW
        obtain ⟨KM8, HM8, HO8, HBB⟩ : Hid (Blk w8 g 24 #[.slice C i f]) ∧ Hid (ManIn w8 C i f ns) ∧ Hid (w8.ownsRow w1.heap.size 42 7 (.slice C i f) i (ns.flatMap cellsR) ∧ ∀ x ∈ ns, RoFr w8 x) ∧ Hid (Below w.heap.size w w8) :=
          ⟨hid (KM.out.under HB8.out), hid (HM.out.below HB8.out), hid ⟨own_below HO.out.1 HB8.out, fun x hx => (HO.out.2 x hx).below HB8.out⟩, hid (HB.out.trans (HB8.out.mono HB.out.size))⟩
        clear KM HM HO HB HB8
        have hgl8 : g < w8.heap.size := KM8.out.lt
        have c8 : w8.cell? ⟨g, 0, none⟩ = some (.slice C i f) := KM8.out.cell 0
        by_cases hk0 : i = 0
        · subst hk0
          go_wp2_with fail
          go_ret
          exact ⟨rfl, HBB.out⟩
        · have hiI : ((i : Int) == 0) = false := by simp; omega
          have hi9 := HK9.out.2
          have hu : IntKind.u64.wrap (i : Int) = (i : Int) := by rw [IntKind.wrap_u64]; omega
          have hu0 : 0 ≤ IntKind.u64.wrap t := by rw [IntKind.wrap_u64]; omega
          obtain ⟨k0, hkz, hk0i⟩ : ∃ k0 : Nat, wrap64 ((IntKind.u64.wrap t).tmod (i : Int)) = (k0 : Int) ∧ k0 < i := by
            have h1 := Int.tmod_nonneg (i : Int) hu0
            have h2 := Int.tmod_lt_of_pos (IntKind.u64.wrap t) (show (0 : Int) < (i : Int) by omega)
            generalize (IntKind.u64.wrap t).tmod (i : Int) = z at h1 h2 ⊢
            refine ⟨z.toNat, ?_, by omega⟩
            unfold wrap64
            omega
          clear hu0
          go_upto_region 25 with fail
          generalize (IntKind.u64.wrap t).tmod (i : Int) = z0 at hkz ⊢
          rw [hkz]
          generalize IntKind.u64.wrap t = z1 at *
          clear hkz hu
          have hk01 : (0 : Int) ≤ (k0 : Int) := by omega
          have hk02 : (k0 : Int) < (i : Int) := by omega
          obtain ⟨ad, hC, hadb⟩ : ∃ ad : Addr, C = some ad ∧ ad.block < w8.heap.size ∧ ad.block ≠ g := by
            rcases HO8.out.1.2 with ⟨_, h0⟩ | ⟨gg, cap, cur, hv, _, hgb, _⟩
            · exact absurd h0 hk0
            · injection hv with hv
              refine ⟨⟨gg, 0, none⟩, hv, (Array.getElem?_eq_some_iff.1 hgb).1, fun e => ?_⟩
              have h1 := KM8.out
              unfold Blk at h1
              have e2 : gg = g := e
              rw [e2, h1] at hgb
              cases hgb
          subst hC
          have HS := hid (fun W (h : Below w8.heap.size w8 W) => (show W.cell? ⟨g, 0, none⟩ = some (.slice (some ad) i f) from (KM8.out.under h).cell 0))
          have HAD := hid hadb
          have hf := own_cap HO8.out.1
          have hfi : f ≤ 9223372036854775807 := by
            obtain ⟨_, _, hv9, _, hfm⟩ := own_form HO8.out.1
            injection hv9 with _ _ hv9
            rw [hv9]; unfold maxLen at hfm; omega
          have hkw : IntKind.i64.wrap ((k0 : Int) + 1) = ((k0 + 1 : Nat) : Int) := by rw [IntKind.wrap_i64]; omega
          have HGL8 := hid hgl8
          have hkf : k0 ≤ f := by omega
          have hkA : (0 : Int) ≤ (k0 : Int) + 1 := by omega
          have hkB : (k0 : Int) + 1 ≤ (i : Int) := by omega
          clear c8 hadb hgl8
          obtain ⟨n9, hn9⟩ : ∃ n9, n9 = (ns.take k0 ++ ns.drop (k0 + 1)).length := ⟨_, rfl⟩
          have HN9 := hid hn9
          have HCA := hid (fun W (hB : Below w8.heap.size w8 W) (d : Addr) (hr : Reads W 22 1 (some d) 2 [.slice (some ad) k0 f, .slice (if f = k0 + 1 then some ad else some (ad.add ((k0 + 1) * 7))) (i - (k0 + 1)) (f - (k0 + 1))]) => (show Calls Try.prog 33 #[.slice (some d) 2 2] W (fun e w' => ∃ C9 f9, e = .returned (.slice C9 n9 f9) ∧ w'.ownsRow W.heap.size 42 7 (.slice C9 n9 f9) n9 ((ns.take k0 ++ ns.drop (k0 + 1)).flatMap cellsR) ∧ Below W.heap.size W w') from by
            have hrd := Reads.of_own (own_below HO8.out.1 hB)
            have h := concat_bR (some d) 2 2 [⟨some ad, k0, f, ns.take k0⟩, ⟨if f = k0 + 1 then some ad else some (ad.add ((k0 + 1) * 7)), i - (k0 + 1), f - (k0 + 1), ns.drop (k0 + 1)⟩] W hr (by
              intro q hq
              simp only [List.mem_cons, List.not_mem_nil, or_false] at hq
              rcases hq with rfl | rfl
              · exact reads_takeR cellsR_len (by decide) hrd (show k0 ≤ i by omega)
              · exact reads_dropR cellsR_len (by decide) hrd (show k0 + 1 ≤ i by omega) (fun h => if_neg (by omega))) (by simp [joinedR]; have := HK9.out; omega) (by decide)
            have hj : joinedR [⟨some ad, k0, f, ns.take k0⟩, ⟨if f = k0 + 1 then some ad else some (ad.add ((k0 + 1) * 7)), i - (k0 + 1), f - (k0 + 1), ns.drop (k0 + 1)⟩] = ns.take k0 ++ ns.drop (k0 + 1) := by simp [joinedR]
            rw [hj] at h
            unfold RetCatR at h
            rw [← HN9.out] at h
            exact h))
          clear hn9
          refine wp_mono (Q := fun e a' W => e = .normal ∧ ∃ (b13 d101 : Nat) (C9 : Option Addr) (f9 : Nat) (B2 : Option Addr), a' = { tmps := List.toArray (Value.agg #[Value.slice B m cB] :: Value.int IntKind.i64 t :: Value.pointer (some { block := w.heap.size, off := 0 }) :: undef :: u4 :: Value.pointer (some { block := g, off := 0 }) :: Value.slice D i q :: Value.int IntKind.i64 ↑s :: u8 :: u9 :: undef :: u11 :: Value.int IntKind.i64 ↑k0 :: Value.pointer (some { block := b13, off := 0 }) :: undef :: Value.bool true :: Value.bool false :: Value.agg #[Value.slice B m cB] :: Value.agg #[Value.slice (some ad) i f] :: Value.agg #[Value.slice (some ad) i f] :: Value.int IntKind.i64 0 :: Value.bool false :: Value.pointer (some { block := g, off := 0 }) :: Value.slice (some ad) i f :: Value.int IntKind.i64 ↑i :: Value.int IntKind.i64 ↑i :: Value.bool false :: u27 :: u28 :: u29 :: u30 :: u31 :: u32 :: u33 :: u34 :: u35 :: u36 :: u37 :: u38 :: u39 :: u40 :: u41 :: u42 :: u43 :: u44 :: u45 :: u46 :: u47 :: u48 :: u49 :: u50 :: u51 :: u52 :: u53 :: u54 :: u55 :: u56 :: u57 :: u58 :: u59 :: u60 :: u61 :: u62 :: u63 :: u64 :: u65 :: u66 :: u67 :: u68 :: u69 :: u70 :: u71 :: u72 :: u73 :: u74 :: Value.slice D i q :: Value.slice C2 s f2 :: Value.int IntKind.i64 ↑s :: Value.int IntKind.i64 ↑s :: Value.bool false :: Value.pointer (some { block := g, off := 0 }) :: Value.slice (some ad) i f :: Value.int IntKind.i64 ↑i :: Value.bool false :: Value.int IntKind.i64 t :: Value.int IntKind.u64 z1 :: Value.pointer (some { block := g, off := 0 }) :: Value.slice (some ad) i f :: Value.int IntKind.i64 ↑i :: Value.int IntKind.u64 ↑i :: Value.int IntKind.u64 z0 :: Value.int IntKind.i64 ↑k0 :: Value.pointer (some { block := g, off := 0 }) :: Value.slice (some ad) i f :: Value.int IntKind.i64 ↑k0 :: Value.slice (some ad) k0 f :: Value.pointer (some { block := g, off := 0 }) :: Value.slice (some ad) i f :: Value.int IntKind.i64 ↑k0 :: Value.int IntKind.i64 (↑k0 + 1) :: Value.slice B2 (i - (k0 + 1)) (f - (k0 + 1)) :: Value.slice (some { block := d101, off := 0 }) 2 2 :: Value.slice C9 n9 f9 :: Value.agg #[.slice C9 n9 f9] :: undef :: undef :: undef :: undef :: undef :: undef :: undef :: undef :: undef :: undef :: undef :: undef :: undef :: undef :: undef :: undef :: undef :: undef :: undef :: undef :: undef :: undef :: undef :: undef :: undef :: undef :: undef :: undef :: undef :: undef :: undef :: undef :: []), defers := [] } ∧ Below w8.heap.size w8 W ∧ Blk W b13 24 #[.slice C9 n9 f9] ∧ W.ownsRow w8.heap.size 42 7 (.slice C9 n9 f9) n9 ((ns.take k0 ++ ns.drop (k0 + 1)).flatMap cellsR)) ?reg25 ?rest25
          case reg25 =>
            refine wp_region_noPanic ?_
            refine wp_region_held_drew (S := fun W => W.cell? ⟨g, 0, none⟩ = some (.slice (some ad) i f)) (by kernel_rfl) (HS.out _ (Below.refl _ _).drew) (fun hHeld => ?_)
            refine wpAnyH_take (i := 0) (v := ?_) rfl (by kernel_rfl) (by kernel_rfl) (by kernel_rfl) (fun _ _ _ h => h) (Or.inl ⟨by rfl, ?_⟩) (by assumption) ?_
            rotate_left
            · intro W hW
              go_simp
              try rfl
            simp only [List.getElem_toArray, List.getElem_cons_zero, Act.put, List.setIfInBounds_toArray, List.set_cons_zero, List.set_cons_succ]
            refine wpAnyH_take (i := 1) (v := ?_) rfl (by kernel_rfl) (by kernel_rfl) (by kernel_rfl) (fun _ _ _ h => h) (Or.inl ⟨by rfl, ?_⟩) (by assumption) ?_
            rotate_left
            · intro W hW
              go_simp
              try rfl
            simp only [List.getElem_toArray, List.getElem_cons_succ, List.getElem_cons_zero, Act.put, List.setIfInBounds_toArray, List.set_cons_zero, List.set_cons_succ]
            refine wpAnyH_take (i := 2) (v := ?_) rfl (by kernel_rfl) (by kernel_rfl) (by kernel_rfl) (fun _ _ _ h => h) (Or.inl ⟨by rfl, ?_⟩) (by assumption) ?_
            rotate_left
            · intro W hW
              go_simp
              try rfl
            simp only [List.getElem_toArray, List.getElem_cons_succ, List.getElem_cons_zero, Act.put, List.setIfInBounds_toArray, List.set_cons_zero, List.set_cons_succ]
            refine wpAnyH_take (i := 3) (v := ?_) rfl (by kernel_rfl) (by kernel_rfl) (by kernel_rfl) (fun _ _ _ h => h) (Or.inl ⟨by rfl, ?_⟩) (by assumption) ?_
            rotate_left
            · intro W hW
              go_simp
              try rfl
            simp only [List.getElem_toArray, List.getElem_cons_succ, List.getElem_cons_zero, Act.put, List.setIfInBounds_toArray, List.set_cons_zero, List.set_cons_succ]
            refine wpAnyH_take (i := 4) (v := ?_) rfl (by kernel_rfl) (by kernel_rfl) (by kernel_rfl) (fun _ _ _ h => h) (Or.inl ⟨by rfl, ?_⟩) (by assumption) ?_
            rotate_left
            · intro W hW
              go_simp
              try rfl
            simp only [List.getElem_toArray, List.getElem_cons_succ, List.getElem_cons_zero, Act.put, List.setIfInBounds_toArray, List.set_cons_zero, List.set_cons_succ]
            refine wpAnyH_take (i := 5) (v := ?_) rfl (by kernel_rfl) (by kernel_rfl) (by kernel_rfl) (fun _ _ _ h => h) (Or.inl ⟨by rfl, ?_⟩) (by assumption) ?_
            rotate_left
            · intro W hW
              go_simp
              try rfl
            simp only [List.getElem_toArray, List.getElem_cons_succ, List.getElem_cons_zero, Act.put, List.setIfInBounds_toArray, List.set_cons_zero, List.set_cons_succ]
            refine wpAnyH_take (i := 6) (v := ?_) rfl (by kernel_rfl) (by kernel_rfl) (by kernel_rfl) (fun _ _ _ h => h) (Or.inl ⟨by rfl, ?_⟩) (by assumption) ?_
            rotate_left
            · intro W hW
              go_simp
              try rfl
            simp only [List.getElem_toArray, List.getElem_cons_succ, List.getElem_cons_zero, Act.put, List.setIfInBounds_toArray, List.set_cons_zero, List.set_cons_succ]
            refine wpAnyH_take (i := 7) (v := ?_) rfl (by kernel_rfl) (by kernel_rfl) (by kernel_rfl) (fun _ _ _ h => h) (Or.inl ⟨by rfl, ?_⟩) (by assumption) ?_
            rotate_left
            · intro W hW
              go_simp
              try rfl
            simp only [List.getElem_toArray, List.getElem_cons_succ, List.getElem_cons_zero, Act.put, List.setIfInBounds_toArray, List.set_cons_zero, List.set_cons_succ]
            refine wpAnyH_take (i := 8) (v := ?_) rfl (by kernel_rfl) (by kernel_rfl) (by kernel_rfl) (fun _ _ _ h => h) (Or.inl ⟨by rfl, ?_⟩) (by assumption) ?_
            rotate_left
            · intro W hW
              go_simp
              try rfl
            simp only [List.getElem_toArray, List.getElem_cons_succ, List.getElem_cons_zero, Act.put, List.setIfInBounds_toArray, List.set_cons_zero, List.set_cons_succ]
            have HBn := hid ((Below.refl w8.heap.size w8).drew)
            generalize w8.drew = wn0 at *
            refine wpAnyH_ready (rs := [9, 12]) (by kernel_rfl) (by simp) ?_
            refine AllReadyH.cons rfl (fun K hK => ?_) (AllReadyH.cons rfl (fun K hK => ?_) AllReadyH.nil)
            · go_simp
              refine hK.out _ _ (HS.out _ (HBn.out.alloc HBn.out.size (.cells #[.slice (some ad) k0 f, .slice (if f = k0 + 1 then some ad else some (ad.add ((k0 + 1) * 7))) (i - (k0 + 1)) (f - (k0 + 1))] 22))) (fun hHeld2 => ?_)
              clear hK K hHeld
              have hHeld := hHeld2
              clear hHeld2
              have HRD := hid (two_new wn0 22 (.slice (some ad) k0 f) (.slice (if f = k0 + 1 then some ad else some (ad.add ((k0 + 1) * 7))) (i - (k0 + 1)) (f - (k0 + 1))))
              replace HBn := hid (HBn.out.alloc HBn.out.size (.cells #[.slice (some ad) k0 f, .slice (if f = k0 + 1 then some ad else some (ad.add ((k0 + 1) * 7))) (i - (k0 + 1)) (f - (k0 + 1))] 22))
              generalize wn0.alloc (.cells #[.slice (some ad) k0 f, .slice (if f = k0 + 1 then some ad else some (ad.add ((k0 + 1) * 7))) (i - (k0 + 1)) (f - (k0 + 1))] 22) = wn1 at *
              generalize wn0.heap.size = d101 at *
              try simp only [List.getElem_toArray, List.getElem_cons_succ, List.getElem_cons_zero, Act.put, List.setIfInBounds_toArray, List.set_cons_zero, List.set_cons_succ]
              refine wpAnyH_ready (rs := [10, 12]) (by kernel_rfl) (by simp) ?_
              refine AllReadyH.cons rfl (fun K hK => ?_) (AllReadyH.cons rfl (fun K hK => ?_) AllReadyH.nil)
              · go_simp
                refine (HCA.out wn1 HBn.out _ HRD.out).mono ?_
                rintro e wn2 ⟨C9, f9, rfl, hown9, hb9⟩
                refine hK.out _ _ (HS.out _ (HBn.out.trans (hb9.mono HBn.out.size))) (fun hHeld2 => ?_)
                clear hK K hHeld
                have hHeld := hHeld2
                clear hHeld2
                have HCT := hid (own_low hown9 HBn.out.size)
                replace HBn := hid (HBn.out.trans (hb9.mono HBn.out.size))
                clear hb9 hown9 HRD
                try simp only [List.getElem_toArray, List.getElem_cons_succ, List.getElem_cons_zero, Act.put, List.setIfInBounds_toArray, List.set_cons_zero, List.set_cons_succ]
                refine wpAnyH_take (i := 11) (v := ?_) rfl (by kernel_rfl) (by kernel_rfl) (by kernel_rfl) (fun _ _ _ h => h) (Or.inl ⟨by rfl, ?_⟩) (by assumption) ?_
                rotate_left
                · intro W hW
                  go_simp
                  try rfl
                simp only [List.getElem_toArray, List.getElem_cons_succ, List.getElem_cons_zero, Act.put, List.setIfInBounds_toArray, List.set_cons_zero, List.set_cons_succ]
                refine wpAnyH_ready (rs := [12]) (by kernel_rfl) (by simp) ?_
                refine AllReadyH.cons rfl (fun K hK => ?_) AllReadyH.nil
                have HBo := HBn
                go_simp
                refine hK.out _ _ (HS.out _ (HBn.out.alloc HBn.out.size (.cells #[.slice none 0 0] 24))) (fun hHeld2 => ?_)
                clear hK K hHeld
                have hHeld := hHeld2
                clear hHeld2
                replace HBn := hid (HBn.out.alloc HBn.out.size (.cells #[.slice none 0 0] 24))
                replace HCT := hid (HCT.out.alloc (.cells #[.slice none 0 0] 24))
                have HKb := hid (Blk.new wn2 24 #[.slice none 0 0])
                have HGE := hid (show w8.heap.size ≤ wn2.heap.size from HBo.out.size)
                generalize wn2.alloc (.cells #[.slice none 0 0] 24) = wn3 at *
                generalize wn2.heap.size = b13 at *
                try simp only [List.getElem_toArray, List.getElem_cons_succ, List.getElem_cons_zero, Act.put, List.setIfInBounds_toArray, List.set_cons_zero, List.set_cons_succ]
                clear HBo
                refine wpAnyH_ready (rs := [13]) (by kernel_rfl) (by simp) ?_
                refine AllReadyH.cons rfl (fun K hK => ?_) AllReadyH.nil
                obtain ⟨zc, zf, zl⟩ : wn3.cell? ⟨b13, 0, none⟩ = some (.slice none 0 0) ∧ wn3.frozen? ⟨b13, 0, none⟩ = false ∧ b13 < wn3.heap.size := ⟨HKb.out.cell 0, HKb.out.frozen 0, HKb.out.lt⟩
                go_simp
                refine hK.out _ _ (HS.out _ (HBn.out.setCell (p := ⟨b13, 0, none⟩) HGE.out _)) (fun hHeld2 => ?_)
                clear hK K hHeld zc zf zl
                have hHeld := hHeld2
                clear hHeld2
                replace HCT := hid (HCT.out.kept (grownBy_setCell' wn3 b13 (.slice C9 n9 f9)) (.inr (fun e => HKb.out.not_row (by decide) HCT.out e.symm)))
                replace HBn := hid (HBn.out.setCell (p := ⟨b13, 0, none⟩) HGE.out (.slice C9 n9 f9))
                replace HKb := hid (HKb.out.set_ 0 (.slice C9 n9 f9))
                try simp only [List.getElem_toArray, List.getElem_cons_succ, List.getElem_cons_zero, Act.put, List.setIfInBounds_toArray, List.set_cons_zero, List.set_cons_succ]
                refine wpAnyH_done (by kernel_rfl) ?_ _
                refine NoPanic.normal ?_
                exact ⟨rfl, b13, d101, C9, f9, _, rfl, HBn.out, HKb.out, HCT.out⟩
              · have HBo := HBn
                go_simp
                refine hK.out _ _ (HS.out _ (HBn.out.alloc HBn.out.size (.cells #[.slice none 0 0] 24))) (fun hHeld2 => ?_)
                clear hK K hHeld
                have hHeld := hHeld2
                clear hHeld2
                replace HBn := hid (HBn.out.alloc HBn.out.size (.cells #[.slice none 0 0] 24))
                replace HRD := hid (HRD.out.alloc (.cells #[.slice none 0 0] 24))
                have HKb := hid (Blk.new wn1 24 #[.slice none 0 0])
                have HGE := hid (show w8.heap.size ≤ wn1.heap.size from HBo.out.size)
                generalize wn1.alloc (.cells #[.slice none 0 0] 24) = wn5 at *
                generalize wn1.heap.size = b13 at *
                try simp only [List.getElem_toArray, List.getElem_cons_succ, List.getElem_cons_zero, Act.put, List.setIfInBounds_toArray, List.set_cons_zero, List.set_cons_succ]
                clear HBo
                refine wpAnyH_ready (rs := [10]) (by kernel_rfl) (by simp) ?_
                refine AllReadyH.cons rfl (fun K hK => ?_) AllReadyH.nil
                go_simp
                refine (HCA.out wn5 HBn.out _ HRD.out).mono ?_
                rintro e wn6 ⟨C9, f9, rfl, hown9, hb9⟩
                refine hK.out _ _ (HS.out _ (HBn.out.trans (hb9.mono HBn.out.size))) (fun hHeld2 => ?_)
                clear hK K hHeld
                have hHeld := hHeld2
                clear hHeld2
                have HCT := hid (own_low hown9 HBn.out.size)
                replace HKb := hid (HKb.out.under hb9)
                replace HBn := hid (HBn.out.trans (hb9.mono HBn.out.size))
                clear hb9 hown9 HRD
                try simp only [List.getElem_toArray, List.getElem_cons_succ, List.getElem_cons_zero, Act.put, List.setIfInBounds_toArray, List.set_cons_zero, List.set_cons_succ]
                refine wpAnyH_take (i := 11) (v := ?_) rfl (by kernel_rfl) (by kernel_rfl) (by kernel_rfl) (fun _ _ _ h => h) (Or.inl ⟨by rfl, ?_⟩) (by assumption) ?_
                rotate_left
                · intro W hW
                  go_simp
                  try rfl
                simp only [List.getElem_toArray, List.getElem_cons_succ, List.getElem_cons_zero, Act.put, List.setIfInBounds_toArray, List.set_cons_zero, List.set_cons_succ]
                refine wpAnyH_ready (rs := [13]) (by kernel_rfl) (by simp) ?_
                refine AllReadyH.cons rfl (fun K hK => ?_) AllReadyH.nil
                obtain ⟨zc, zf, zl⟩ : wn6.cell? ⟨b13, 0, none⟩ = some (.slice none 0 0) ∧ wn6.frozen? ⟨b13, 0, none⟩ = false ∧ b13 < wn6.heap.size := ⟨HKb.out.cell 0, HKb.out.frozen 0, HKb.out.lt⟩
                go_simp
                refine hK.out _ _ (HS.out _ (HBn.out.setCell (p := ⟨b13, 0, none⟩) HGE.out _)) (fun hHeld2 => ?_)
                clear hK K hHeld zc zf zl
                have hHeld := hHeld2
                clear hHeld2
                replace HCT := hid (HCT.out.kept (grownBy_setCell' wn6 b13 (.slice C9 n9 f9)) (.inr (fun e => HKb.out.not_row (by decide) HCT.out e.symm)))
                replace HBn := hid (HBn.out.setCell (p := ⟨b13, 0, none⟩) HGE.out (.slice C9 n9 f9))
                replace HKb := hid (HKb.out.set_ 0 (.slice C9 n9 f9))
                try simp only [List.getElem_toArray, List.getElem_cons_succ, List.getElem_cons_zero, Act.put, List.setIfInBounds_toArray, List.set_cons_zero, List.set_cons_succ]
                refine wpAnyH_done (by kernel_rfl) ?_ _
                refine NoPanic.normal ?_
                exact ⟨rfl, b13, d101, C9, f9, _, rfl, HBn.out, HKb.out, HCT.out⟩
            · have HBo := HBn
              go_simp
              refine hK.out _ _ (HS.out _ (HBn.out.alloc HBn.out.size (.cells #[.slice none 0 0] 24))) (fun hHeld2 => ?_)
              clear hK K hHeld
              have hHeld := hHeld2
              clear hHeld2
              replace HBn := hid (HBn.out.alloc HBn.out.size (.cells #[.slice none 0 0] 24))
              have HKb := hid (Blk.new wn0 24 #[.slice none 0 0])
              have HGE := hid (show w8.heap.size ≤ wn0.heap.size from HBo.out.size)
              generalize wn0.alloc (.cells #[.slice none 0 0] 24) = wn8 at *
              generalize wn0.heap.size = b13 at *
              try simp only [List.getElem_toArray, List.getElem_cons_succ, List.getElem_cons_zero, Act.put, List.setIfInBounds_toArray, List.set_cons_zero, List.set_cons_succ]
              clear HBo
              refine wpAnyH_ready (rs := [9]) (by kernel_rfl) (by simp) ?_
              refine AllReadyH.cons rfl (fun K hK => ?_) AllReadyH.nil
              go_simp
              refine hK.out _ _ (HS.out _ (HBn.out.alloc HBn.out.size (.cells #[.slice (some ad) k0 f, .slice (if f = k0 + 1 then some ad else some (ad.add ((k0 + 1) * 7))) (i - (k0 + 1)) (f - (k0 + 1))] 22))) (fun hHeld2 => ?_)
              clear hK K hHeld
              have hHeld := hHeld2
              clear hHeld2
              have HRD := hid (two_new wn8 22 (.slice (some ad) k0 f) (.slice (if f = k0 + 1 then some ad else some (ad.add ((k0 + 1) * 7))) (i - (k0 + 1)) (f - (k0 + 1))))
              replace HBn := hid (HBn.out.alloc HBn.out.size (.cells #[.slice (some ad) k0 f, .slice (if f = k0 + 1 then some ad else some (ad.add ((k0 + 1) * 7))) (i - (k0 + 1)) (f - (k0 + 1))] 22))
              replace HKb := hid (HKb.out.alloc (.cells #[.slice (some ad) k0 f, .slice (if f = k0 + 1 then some ad else some (ad.add ((k0 + 1) * 7))) (i - (k0 + 1)) (f - (k0 + 1))] 22))
              generalize wn8.alloc (.cells #[.slice (some ad) k0 f, .slice (if f = k0 + 1 then some ad else some (ad.add ((k0 + 1) * 7))) (i - (k0 + 1)) (f - (k0 + 1))] 22) = wn9 at *
              generalize wn8.heap.size = d101 at *
              try simp only [List.getElem_toArray, List.getElem_cons_succ, List.getElem_cons_zero, Act.put, List.setIfInBounds_toArray, List.set_cons_zero, List.set_cons_succ]
              refine wpAnyH_ready (rs := [10]) (by kernel_rfl) (by simp) ?_
              refine AllReadyH.cons rfl (fun K hK => ?_) AllReadyH.nil
              go_simp
              refine (HCA.out wn9 HBn.out _ HRD.out).mono ?_
              rintro e wn10 ⟨C9, f9, rfl, hown9, hb9⟩
              refine hK.out _ _ (HS.out _ (HBn.out.trans (hb9.mono HBn.out.size))) (fun hHeld2 => ?_)
              clear hK K hHeld
              have hHeld := hHeld2
              clear hHeld2
              have HCT := hid (own_low hown9 HBn.out.size)
              replace HKb := hid (HKb.out.under hb9)
              replace HBn := hid (HBn.out.trans (hb9.mono HBn.out.size))
              clear hb9 hown9 HRD
              try simp only [List.getElem_toArray, List.getElem_cons_succ, List.getElem_cons_zero, Act.put, List.setIfInBounds_toArray, List.set_cons_zero, List.set_cons_succ]
              refine wpAnyH_take (i := 11) (v := ?_) rfl (by kernel_rfl) (by kernel_rfl) (by kernel_rfl) (fun _ _ _ h => h) (Or.inl ⟨by rfl, ?_⟩) (by assumption) ?_
              rotate_left
              · intro W hW
                go_simp
                try rfl
              simp only [List.getElem_toArray, List.getElem_cons_succ, List.getElem_cons_zero, Act.put, List.setIfInBounds_toArray, List.set_cons_zero, List.set_cons_succ]
              refine wpAnyH_ready (rs := [13]) (by kernel_rfl) (by simp) ?_
              refine AllReadyH.cons rfl (fun K hK => ?_) AllReadyH.nil
              obtain ⟨zc, zf, zl⟩ : wn10.cell? ⟨b13, 0, none⟩ = some (.slice none 0 0) ∧ wn10.frozen? ⟨b13, 0, none⟩ = false ∧ b13 < wn10.heap.size := ⟨HKb.out.cell 0, HKb.out.frozen 0, HKb.out.lt⟩
              go_simp
              refine hK.out _ _ (HS.out _ (HBn.out.setCell (p := ⟨b13, 0, none⟩) HGE.out _)) (fun hHeld2 => ?_)
              clear hK K hHeld zc zf zl
              have hHeld := hHeld2
              clear hHeld2
              replace HCT := hid (HCT.out.kept (grownBy_setCell' wn10 b13 (.slice C9 n9 f9)) (.inr (fun e => HKb.out.not_row (by decide) HCT.out e.symm)))
              replace HBn := hid (HBn.out.setCell (p := ⟨b13, 0, none⟩) HGE.out (.slice C9 n9 f9))
              replace HKb := hid (HKb.out.set_ 0 (.slice C9 n9 f9))
              try simp only [List.getElem_toArray, List.getElem_cons_succ, List.getElem_cons_zero, Act.put, List.setIfInBounds_toArray, List.set_cons_zero, List.set_cons_succ]
              refine wpAnyH_done (by kernel_rfl) ?_ _
              refine NoPanic.normal ?_
              exact ⟨rfl, b13, d101, C9, f9, _, rfl, HBn.out, HKb.out, HCT.out⟩
          case rest25 =>
            rintro e a' w9 ⟨rfl, b13, d101, C9, f9, B2, rfl, hB9, hK9, hC9⟩
            obtain ⟨KM9, HM9, HO9, HBB9⟩ : Hid (Blk w9 g 24 #[.slice (some ad) i f]) ∧ Hid (ManIn w9 (some ad) i f ns) ∧ Hid (w9.ownsRow w1.heap.size 42 7 (.slice (some ad) i f) i (ns.flatMap cellsR) ∧ ∀ x ∈ ns, RoFr w9 x) ∧ Hid (Below w.heap.size w w9) :=
              ⟨hid (KM8.out.under hB9), hid (HM8.out.below hB9), hid ⟨own_below HO8.out.1 hB9, fun x hx => (HO8.out.2 x hx).below hB9⟩, hid (HBB.out.trans (hB9.mono HBB.out.size))⟩
            have K13 := hid hK9
            have R13 := hid hC9
            have HS2 := hid (fun W (h : Below w9.heap.size w9 W) => (show W.cell? ⟨g, 0, none⟩ = some (.slice (some ad) i f) from (KM9.out.under h).cell 0))
            clear hB9 hK9 hC9 KM8 HM8 HO8 HS HCA HBB hkB
            have hkB2 : k0 ≤ i := by omega
            have hkC : (k0 : Int) + 1 ≤ (f : Int) := by omega
            have hkD : ¬ f = k0 := by omega
            have hkE : k0 + 1 ≤ f := by omega
            go_upto_region 26 with fail
            obtain ⟨n10, hn10⟩ : ∃ n10, n10 = (ns.take (k0 + 1) ++ ns.drop k0).length := ⟨_, rfl⟩
            have HN10 := hid hn10
            have HCA2 := hid (fun W (hB : Below w9.heap.size w9 W) (d : Addr) (hr : Reads W 22 1 (some d) 2 [.slice (some ad) (k0 + 1) f, .slice (some (ad.add (k0 * 7))) (i - k0) (f - k0)]) => (show Calls Try.prog 33 #[.slice (some d) 2 2] W (fun e w' => ∃ C9 f9, e = .returned (.slice C9 n10 f9) ∧ w'.ownsRow W.heap.size 42 7 (.slice C9 n10 f9) n10 ((ns.take (k0 + 1) ++ ns.drop k0).flatMap cellsR) ∧ Below W.heap.size W w') from by
              have hrd := Reads.of_own (own_below HO9.out.1 hB)
              have h := concat_bR (some d) 2 2 [⟨some ad, k0 + 1, f, ns.take (k0 + 1)⟩, ⟨some (ad.add (k0 * 7)), i - k0, f - k0, ns.drop k0⟩] W hr (by
                intro q hq
                simp only [List.mem_cons, List.not_mem_nil, or_false] at hq
                rcases hq with rfl | rfl
                · exact reads_takeR cellsR_len (by decide) hrd (show k0 + 1 ≤ i by omega)
                · exact reads_dropR cellsR_len (by decide) hrd (show k0 ≤ i by omega) (fun h => rfl)) (by simp [joinedR]; have := HK9.out; omega) (by decide)
              have hj : joinedR [⟨some ad, k0 + 1, f, ns.take (k0 + 1)⟩, ⟨some (ad.add (k0 * 7)), i - k0, f - k0, ns.drop k0⟩] = ns.take (k0 + 1) ++ ns.drop k0 := by simp [joinedR]
              rw [hj] at h
              unfold RetCatR at h
              rw [← HN10.out] at h
              exact h))
            clear hn10
            refine wp_mono (Q := fun e a' W => e = .normal ∧ ∃ (b14 d113 : Nat) (C10 : Option Addr) (f10 : Nat), a' = { tmps := List.toArray (Value.agg #[Value.slice B m cB] :: Value.int IntKind.i64 t :: Value.pointer (some { block := w.heap.size, off := 0 }) :: undef :: u4 :: Value.pointer (some { block := g, off := 0 }) :: Value.slice D i q :: Value.int IntKind.i64 ↑s :: u8 :: u9 :: undef :: u11 :: Value.int IntKind.i64 ↑k0 :: Value.pointer (some { block := b13, off := 0 }) :: Value.pointer (some { block := b14, off := 0 }) :: Value.bool true :: Value.bool false :: Value.agg #[Value.slice B m cB] :: Value.agg #[Value.slice (some ad) i f] :: Value.agg #[Value.slice (some ad) i f] :: Value.int IntKind.i64 0 :: Value.bool false :: Value.pointer (some { block := g, off := 0 }) :: Value.slice (some ad) i f :: Value.int IntKind.i64 ↑i :: Value.int IntKind.i64 ↑i :: Value.bool false :: u27 :: u28 :: u29 :: u30 :: u31 :: u32 :: u33 :: u34 :: u35 :: u36 :: u37 :: u38 :: u39 :: u40 :: u41 :: u42 :: u43 :: u44 :: u45 :: u46 :: u47 :: u48 :: u49 :: u50 :: u51 :: u52 :: u53 :: u54 :: u55 :: u56 :: u57 :: u58 :: u59 :: u60 :: u61 :: u62 :: u63 :: u64 :: u65 :: u66 :: u67 :: u68 :: u69 :: u70 :: u71 :: u72 :: u73 :: u74 :: Value.slice D i q :: Value.slice C2 s f2 :: Value.int IntKind.i64 ↑s :: Value.int IntKind.i64 ↑s :: Value.bool false :: Value.pointer (some { block := g, off := 0 }) :: Value.slice (some ad) i f :: Value.int IntKind.i64 ↑i :: Value.bool false :: Value.int IntKind.i64 t :: Value.int IntKind.u64 z1 :: Value.pointer (some { block := g, off := 0 }) :: Value.slice (some ad) i f :: Value.int IntKind.i64 ↑i :: Value.int IntKind.u64 ↑i :: Value.int IntKind.u64 z0 :: Value.int IntKind.i64 ↑k0 :: Value.pointer (some { block := g, off := 0 }) :: Value.slice (some ad) i f :: Value.int IntKind.i64 ↑k0 :: Value.slice (some ad) k0 f :: Value.pointer (some { block := g, off := 0 }) :: Value.slice (some ad) i f :: Value.int IntKind.i64 ↑k0 :: Value.int IntKind.i64 (↑k0 + 1) :: Value.slice B2 (i - (k0 + 1)) (f - (k0 + 1)) :: Value.slice (some { block := d101, off := 0 }) 2 2 :: Value.slice C9 n9 f9 :: Value.agg #[.slice C9 n9 f9] :: Value.pointer (some { block := g, off := 0 }) :: Value.slice (some ad) i f :: Value.int IntKind.i64 ↑k0 :: Value.int IntKind.i64 (↑k0 + 1) :: Value.slice (some ad) (k0 + 1) f :: Value.pointer (some { block := g, off := 0 }) :: Value.slice (some ad) i f :: Value.int IntKind.i64 ↑k0 :: Value.slice (some (ad.add (k0 * 7))) (i - k0) (f - k0) :: Value.slice (some { block := d113, off := 0 }) 2 2 :: Value.slice C10 n10 f10 :: Value.agg #[.slice C10 n10 f10] :: undef :: undef :: undef :: undef :: undef :: undef :: undef :: undef :: undef :: undef :: undef :: undef :: undef :: undef :: undef :: undef :: undef :: undef :: undef :: undef :: []), defers := [] } ∧ Below w9.heap.size w9 W ∧ Blk W b14 24 #[.slice C10 n10 f10] ∧ W.ownsRow w9.heap.size 42 7 (.slice C10 n10 f10) n10 ((ns.take (k0 + 1) ++ ns.drop k0).flatMap cellsR)) ?reg26 ?rest26
            case reg26 =>
              refine wp_region_noPanic ?_
              refine wp_region_held_drew (S := fun W => W.cell? ⟨g, 0, none⟩ = some (.slice (some ad) i f)) (by kernel_rfl) (HS2.out _ (Below.refl _ _).drew) (fun hHeld => ?_)
              refine wpAnyH_take (i := 0) (v := ?_) rfl (by kernel_rfl) (by kernel_rfl) (by kernel_rfl) (fun _ _ _ h => h) (Or.inl ⟨by rfl, ?_⟩) (by assumption) ?_
              rotate_left
              · intro W hW
                go_simp
                try rfl
              simp only [List.getElem_toArray, List.getElem_cons_zero, Act.put, List.setIfInBounds_toArray, List.set_cons_zero, List.set_cons_succ]
              refine wpAnyH_take (i := 1) (v := ?_) rfl (by kernel_rfl) (by kernel_rfl) (by kernel_rfl) (fun _ _ _ h => h) (Or.inl ⟨by rfl, ?_⟩) (by assumption) ?_
              rotate_left
              · intro W hW
                go_simp
                try rfl
              simp only [List.getElem_toArray, List.getElem_cons_succ, List.getElem_cons_zero, Act.put, List.setIfInBounds_toArray, List.set_cons_zero, List.set_cons_succ]
              refine wpAnyH_take (i := 2) (v := ?_) rfl (by kernel_rfl) (by kernel_rfl) (by kernel_rfl) (fun _ _ _ h => h) (Or.inl ⟨by rfl, ?_⟩) (by assumption) ?_
              rotate_left
              · intro W hW
                go_simp
                try rfl
              simp only [List.getElem_toArray, List.getElem_cons_succ, List.getElem_cons_zero, Act.put, List.setIfInBounds_toArray, List.set_cons_zero, List.set_cons_succ]
              refine wpAnyH_take (i := 3) (v := ?_) rfl (by kernel_rfl) (by kernel_rfl) (by kernel_rfl) (fun _ _ _ h => h) (Or.inl ⟨by rfl, ?_⟩) (by assumption) ?_
              rotate_left
              · intro W hW
                go_simp
                try rfl
              simp only [List.getElem_toArray, List.getElem_cons_succ, List.getElem_cons_zero, Act.put, List.setIfInBounds_toArray, List.set_cons_zero, List.set_cons_succ]
              refine wpAnyH_take (i := 4) (v := ?_) rfl (by kernel_rfl) (by kernel_rfl) (by kernel_rfl) (fun _ _ _ h => h) (Or.inl ⟨by rfl, ?_⟩) (by assumption) ?_
              rotate_left
              · intro W hW
                go_simp
                try rfl
              simp only [List.getElem_toArray, List.getElem_cons_succ, List.getElem_cons_zero, Act.put, List.setIfInBounds_toArray, List.set_cons_zero, List.set_cons_succ]
              refine wpAnyH_take (i := 5) (v := ?_) rfl (by kernel_rfl) (by kernel_rfl) (by kernel_rfl) (fun _ _ _ h => h) (Or.inl ⟨by rfl, ?_⟩) (by assumption) ?_
              rotate_left
              · intro W hW
                go_simp
                try rfl
              simp only [List.getElem_toArray, List.getElem_cons_succ, List.getElem_cons_zero, Act.put, List.setIfInBounds_toArray, List.set_cons_zero, List.set_cons_succ]
              refine wpAnyH_take (i := 6) (v := ?_) rfl (by kernel_rfl) (by kernel_rfl) (by kernel_rfl) (fun _ _ _ h => h) (Or.inl ⟨by rfl, ?_⟩) (by assumption) ?_
              rotate_left
              · intro W hW
                go_simp
                try rfl
              simp only [List.getElem_toArray, List.getElem_cons_succ, List.getElem_cons_zero, Act.put, List.setIfInBounds_toArray, List.set_cons_zero, List.set_cons_succ]
              refine wpAnyH_take (i := 7) (v := ?_) rfl (by kernel_rfl) (by kernel_rfl) (by kernel_rfl) (fun _ _ _ h => h) (Or.inl ⟨by rfl, ?_⟩) (by assumption) ?_
              rotate_left
              · intro W hW
                go_simp
                try rfl
              simp only [List.getElem_toArray, List.getElem_cons_succ, List.getElem_cons_zero, Act.put, List.setIfInBounds_toArray, List.set_cons_zero, List.set_cons_succ]
              refine wpAnyH_take (i := 8) (v := ?_) rfl (by kernel_rfl) (by kernel_rfl) (by kernel_rfl) (fun _ _ _ h => h) (Or.inl ⟨by rfl, ?_⟩) (by assumption) ?_
              rotate_left
              · intro W hW
                go_simp
                try rfl
              simp only [List.getElem_toArray, List.getElem_cons_succ, List.getElem_cons_zero, Act.put, List.setIfInBounds_toArray, List.set_cons_zero, List.set_cons_succ]
              have HBn := hid ((Below.refl w9.heap.size w9).drew)
              generalize w9.drew = wn0 at *
              refine wpAnyH_ready (rs := [9, 12]) (by kernel_rfl) (by simp) ?_
              refine AllReadyH.cons rfl (fun K hK => ?_) (AllReadyH.cons rfl (fun K hK => ?_) AllReadyH.nil)
              · go_simp
                refine hK.out _ _ (HS2.out _ (HBn.out.alloc HBn.out.size (.cells #[.slice (some ad) (k0 + 1) f, .slice (some (ad.add (k0 * 7))) (i - k0) (f - k0)] 22))) (fun hHeld2 => ?_)
                clear hK K hHeld
                have hHeld := hHeld2
                clear hHeld2
                have HRD := hid (two_new wn0 22 (.slice (some ad) (k0 + 1) f) (.slice (some (ad.add (k0 * 7))) (i - k0) (f - k0)))
                replace HBn := hid (HBn.out.alloc HBn.out.size (.cells #[.slice (some ad) (k0 + 1) f, .slice (some (ad.add (k0 * 7))) (i - k0) (f - k0)] 22))
                generalize wn0.alloc (.cells #[.slice (some ad) (k0 + 1) f, .slice (some (ad.add (k0 * 7))) (i - k0) (f - k0)] 22) = wn1 at *
                generalize wn0.heap.size = d113 at *
                try simp only [List.getElem_toArray, List.getElem_cons_succ, List.getElem_cons_zero, Act.put, List.setIfInBounds_toArray, List.set_cons_zero, List.set_cons_succ]
                refine wpAnyH_ready (rs := [10, 12]) (by kernel_rfl) (by simp) ?_
                refine AllReadyH.cons rfl (fun K hK => ?_) (AllReadyH.cons rfl (fun K hK => ?_) AllReadyH.nil)
                · go_simp
                  refine (HCA2.out wn1 HBn.out _ HRD.out).mono ?_
                  rintro e wn2 ⟨C10, f10, rfl, hown10, hb10⟩
                  refine hK.out _ _ (HS2.out _ (HBn.out.trans (hb10.mono HBn.out.size))) (fun hHeld2 => ?_)
                  clear hK K hHeld
                  have hHeld := hHeld2
                  clear hHeld2
                  have HCT := hid (own_low hown10 HBn.out.size)
                  replace HBn := hid (HBn.out.trans (hb10.mono HBn.out.size))
                  clear hb10 hown10 HRD
                  try simp only [List.getElem_toArray, List.getElem_cons_succ, List.getElem_cons_zero, Act.put, List.setIfInBounds_toArray, List.set_cons_zero, List.set_cons_succ]
                  refine wpAnyH_take (i := 11) (v := ?_) rfl (by kernel_rfl) (by kernel_rfl) (by kernel_rfl) (fun _ _ _ h => h) (Or.inl ⟨by rfl, ?_⟩) (by assumption) ?_
                  rotate_left
                  · intro W hW
                    go_simp
                    try rfl
                  simp only [List.getElem_toArray, List.getElem_cons_succ, List.getElem_cons_zero, Act.put, List.setIfInBounds_toArray, List.set_cons_zero, List.set_cons_succ]
                  refine wpAnyH_ready (rs := [12]) (by kernel_rfl) (by simp) ?_
                  refine AllReadyH.cons rfl (fun K hK => ?_) AllReadyH.nil
                  have HBo := HBn
                  go_simp
                  refine hK.out _ _ (HS2.out _ (HBn.out.alloc HBn.out.size (.cells #[.slice none 0 0] 24))) (fun hHeld2 => ?_)
                  clear hK K hHeld
                  have hHeld := hHeld2
                  clear hHeld2
                  replace HBn := hid (HBn.out.alloc HBn.out.size (.cells #[.slice none 0 0] 24))
                  replace HCT := hid (HCT.out.alloc (.cells #[.slice none 0 0] 24))
                  have HKb := hid (Blk.new wn2 24 #[.slice none 0 0])
                  have HGE := hid (show w9.heap.size ≤ wn2.heap.size from HBo.out.size)
                  generalize wn2.alloc (.cells #[.slice none 0 0] 24) = wn3 at *
                  generalize wn2.heap.size = b14 at *
                  try simp only [List.getElem_toArray, List.getElem_cons_succ, List.getElem_cons_zero, Act.put, List.setIfInBounds_toArray, List.set_cons_zero, List.set_cons_succ]
                  clear HBo
                  refine wpAnyH_ready (rs := [13]) (by kernel_rfl) (by simp) ?_
                  refine AllReadyH.cons rfl (fun K hK => ?_) AllReadyH.nil
                  obtain ⟨zc, zf, zl⟩ : wn3.cell? ⟨b14, 0, none⟩ = some (.slice none 0 0) ∧ wn3.frozen? ⟨b14, 0, none⟩ = false ∧ b14 < wn3.heap.size := ⟨HKb.out.cell 0, HKb.out.frozen 0, HKb.out.lt⟩
                  go_simp
                  refine hK.out _ _ (HS2.out _ (HBn.out.setCell (p := ⟨b14, 0, none⟩) HGE.out _)) (fun hHeld2 => ?_)
                  clear hK K hHeld zc zf zl
                  have hHeld := hHeld2
                  clear hHeld2
                  replace HCT := hid (HCT.out.kept (grownBy_setCell' wn3 b14 (.slice C10 n10 f10)) (.inr (fun e => HKb.out.not_row (by decide) HCT.out e.symm)))
                  replace HBn := hid (HBn.out.setCell (p := ⟨b14, 0, none⟩) HGE.out (.slice C10 n10 f10))
                  replace HKb := hid (HKb.out.set_ 0 (.slice C10 n10 f10))
                  try simp only [List.getElem_toArray, List.getElem_cons_succ, List.getElem_cons_zero, Act.put, List.setIfInBounds_toArray, List.set_cons_zero, List.set_cons_succ]
                  refine wpAnyH_done (by kernel_rfl) ?_ _
                  refine NoPanic.normal ?_
                  exact ⟨rfl, b14, d113, C10, f10, rfl, HBn.out, HKb.out, HCT.out⟩
                · have HBo := HBn
                  go_simp
                  refine hK.out _ _ (HS2.out _ (HBn.out.alloc HBn.out.size (.cells #[.slice none 0 0] 24))) (fun hHeld2 => ?_)
                  clear hK K hHeld
                  have hHeld := hHeld2
                  clear hHeld2
                  replace HBn := hid (HBn.out.alloc HBn.out.size (.cells #[.slice none 0 0] 24))
                  replace HRD := hid (HRD.out.alloc (.cells #[.slice none 0 0] 24))
                  have HKb := hid (Blk.new wn1 24 #[.slice none 0 0])
                  have HGE := hid (show w9.heap.size ≤ wn1.heap.size from HBo.out.size)
                  generalize wn1.alloc (.cells #[.slice none 0 0] 24) = wn5 at *
                  generalize wn1.heap.size = b14 at *
                  try simp only [List.getElem_toArray, List.getElem_cons_succ, List.getElem_cons_zero, Act.put, List.setIfInBounds_toArray, List.set_cons_zero, List.set_cons_succ]
                  clear HBo
                  refine wpAnyH_ready (rs := [10]) (by kernel_rfl) (by simp) ?_
                  refine AllReadyH.cons rfl (fun K hK => ?_) AllReadyH.nil
                  go_simp
                  refine (HCA2.out wn5 HBn.out _ HRD.out).mono ?_
                  rintro e wn6 ⟨C10, f10, rfl, hown10, hb10⟩
                  refine hK.out _ _ (HS2.out _ (HBn.out.trans (hb10.mono HBn.out.size))) (fun hHeld2 => ?_)
                  clear hK K hHeld
                  have hHeld := hHeld2
                  clear hHeld2
                  have HCT := hid (own_low hown10 HBn.out.size)
                  replace HKb := hid (HKb.out.under hb10)
                  replace HBn := hid (HBn.out.trans (hb10.mono HBn.out.size))
                  clear hb10 hown10 HRD
                  try simp only [List.getElem_toArray, List.getElem_cons_succ, List.getElem_cons_zero, Act.put, List.setIfInBounds_toArray, List.set_cons_zero, List.set_cons_succ]
                  refine wpAnyH_take (i := 11) (v := ?_) rfl (by kernel_rfl) (by kernel_rfl) (by kernel_rfl) (fun _ _ _ h => h) (Or.inl ⟨by rfl, ?_⟩) (by assumption) ?_
                  rotate_left
                  · intro W hW
                    go_simp
                    try rfl
                  simp only [List.getElem_toArray, List.getElem_cons_succ, List.getElem_cons_zero, Act.put, List.setIfInBounds_toArray, List.set_cons_zero, List.set_cons_succ]
                  refine wpAnyH_ready (rs := [13]) (by kernel_rfl) (by simp) ?_
                  refine AllReadyH.cons rfl (fun K hK => ?_) AllReadyH.nil
                  obtain ⟨zc, zf, zl⟩ : wn6.cell? ⟨b14, 0, none⟩ = some (.slice none 0 0) ∧ wn6.frozen? ⟨b14, 0, none⟩ = false ∧ b14 < wn6.heap.size := ⟨HKb.out.cell 0, HKb.out.frozen 0, HKb.out.lt⟩
                  go_simp
                  refine hK.out _ _ (HS2.out _ (HBn.out.setCell (p := ⟨b14, 0, none⟩) HGE.out _)) (fun hHeld2 => ?_)
                  clear hK K hHeld zc zf zl
                  have hHeld := hHeld2
                  clear hHeld2
                  replace HCT := hid (HCT.out.kept (grownBy_setCell' wn6 b14 (.slice C10 n10 f10)) (.inr (fun e => HKb.out.not_row (by decide) HCT.out e.symm)))
                  replace HBn := hid (HBn.out.setCell (p := ⟨b14, 0, none⟩) HGE.out (.slice C10 n10 f10))
                  replace HKb := hid (HKb.out.set_ 0 (.slice C10 n10 f10))
                  try simp only [List.getElem_toArray, List.getElem_cons_succ, List.getElem_cons_zero, Act.put, List.setIfInBounds_toArray, List.set_cons_zero, List.set_cons_succ]
                  refine wpAnyH_done (by kernel_rfl) ?_ _
                  refine NoPanic.normal ?_
                  exact ⟨rfl, b14, d113, C10, f10, rfl, HBn.out, HKb.out, HCT.out⟩
              · have HBo := HBn
                go_simp
                refine hK.out _ _ (HS2.out _ (HBn.out.alloc HBn.out.size (.cells #[.slice none 0 0] 24))) (fun hHeld2 => ?_)
                clear hK K hHeld
                have hHeld := hHeld2
                clear hHeld2
                replace HBn := hid (HBn.out.alloc HBn.out.size (.cells #[.slice none 0 0] 24))
                have HKb := hid (Blk.new wn0 24 #[.slice none 0 0])
                have HGE := hid (show w9.heap.size ≤ wn0.heap.size from HBo.out.size)
                generalize wn0.alloc (.cells #[.slice none 0 0] 24) = wn8 at *
                generalize wn0.heap.size = b14 at *
                try simp only [List.getElem_toArray, List.getElem_cons_succ, List.getElem_cons_zero, Act.put, List.setIfInBounds_toArray, List.set_cons_zero, List.set_cons_succ]
                clear HBo
                refine wpAnyH_ready (rs := [9]) (by kernel_rfl) (by simp) ?_
                refine AllReadyH.cons rfl (fun K hK => ?_) AllReadyH.nil
                go_simp
                refine hK.out _ _ (HS2.out _ (HBn.out.alloc HBn.out.size (.cells #[.slice (some ad) (k0 + 1) f, .slice (some (ad.add (k0 * 7))) (i - k0) (f - k0)] 22))) (fun hHeld2 => ?_)
                clear hK K hHeld
                have hHeld := hHeld2
                clear hHeld2
                have HRD := hid (two_new wn8 22 (.slice (some ad) (k0 + 1) f) (.slice (some (ad.add (k0 * 7))) (i - k0) (f - k0)))
                replace HBn := hid (HBn.out.alloc HBn.out.size (.cells #[.slice (some ad) (k0 + 1) f, .slice (some (ad.add (k0 * 7))) (i - k0) (f - k0)] 22))
                replace HKb := hid (HKb.out.alloc (.cells #[.slice (some ad) (k0 + 1) f, .slice (some (ad.add (k0 * 7))) (i - k0) (f - k0)] 22))
                generalize wn8.alloc (.cells #[.slice (some ad) (k0 + 1) f, .slice (some (ad.add (k0 * 7))) (i - k0) (f - k0)] 22) = wn9 at *
                generalize wn8.heap.size = d113 at *
                try simp only [List.getElem_toArray, List.getElem_cons_succ, List.getElem_cons_zero, Act.put, List.setIfInBounds_toArray, List.set_cons_zero, List.set_cons_succ]
                refine wpAnyH_ready (rs := [10]) (by kernel_rfl) (by simp) ?_
                refine AllReadyH.cons rfl (fun K hK => ?_) AllReadyH.nil
                go_simp
                refine (HCA2.out wn9 HBn.out _ HRD.out).mono ?_
                rintro e wn10 ⟨C10, f10, rfl, hown10, hb10⟩
                refine hK.out _ _ (HS2.out _ (HBn.out.trans (hb10.mono HBn.out.size))) (fun hHeld2 => ?_)
                clear hK K hHeld
                have hHeld := hHeld2
                clear hHeld2
                have HCT := hid (own_low hown10 HBn.out.size)
                replace HKb := hid (HKb.out.under hb10)
                replace HBn := hid (HBn.out.trans (hb10.mono HBn.out.size))
                clear hb10 hown10 HRD
                try simp only [List.getElem_toArray, List.getElem_cons_succ, List.getElem_cons_zero, Act.put, List.setIfInBounds_toArray, List.set_cons_zero, List.set_cons_succ]
                refine wpAnyH_take (i := 11) (v := ?_) rfl (by kernel_rfl) (by kernel_rfl) (by kernel_rfl) (fun _ _ _ h => h) (Or.inl ⟨by rfl, ?_⟩) (by assumption) ?_
                rotate_left
                · intro W hW
                  go_simp
                  try rfl
                simp only [List.getElem_toArray, List.getElem_cons_succ, List.getElem_cons_zero, Act.put, List.setIfInBounds_toArray, List.set_cons_zero, List.set_cons_succ]
                refine wpAnyH_ready (rs := [13]) (by kernel_rfl) (by simp) ?_
                refine AllReadyH.cons rfl (fun K hK => ?_) AllReadyH.nil
                obtain ⟨zc, zf, zl⟩ : wn10.cell? ⟨b14, 0, none⟩ = some (.slice none 0 0) ∧ wn10.frozen? ⟨b14, 0, none⟩ = false ∧ b14 < wn10.heap.size := ⟨HKb.out.cell 0, HKb.out.frozen 0, HKb.out.lt⟩
                go_simp
                refine hK.out _ _ (HS2.out _ (HBn.out.setCell (p := ⟨b14, 0, none⟩) HGE.out _)) (fun hHeld2 => ?_)
                clear hK K hHeld zc zf zl
                have hHeld := hHeld2
                clear hHeld2
                replace HCT := hid (HCT.out.kept (grownBy_setCell' wn10 b14 (.slice C10 n10 f10)) (.inr (fun e => HKb.out.not_row (by decide) HCT.out e.symm)))
                replace HBn := hid (HBn.out.setCell (p := ⟨b14, 0, none⟩) HGE.out (.slice C10 n10 f10))
                replace HKb := hid (HKb.out.set_ 0 (.slice C10 n10 f10))
                try simp only [List.getElem_toArray, List.getElem_cons_succ, List.getElem_cons_zero, Act.put, List.setIfInBounds_toArray, List.set_cons_zero, List.set_cons_succ]
                refine wpAnyH_done (by kernel_rfl) ?_ _
                refine NoPanic.normal ?_
                exact ⟨rfl, b14, d113, C10, f10, rfl, HBn.out, HKb.out, HCT.out⟩
            case rest26 =>
              rintro e a' w10 ⟨rfl, b14, d113, C10, f10, rfl, hB10, hK10, hC10⟩
              have HBT := hid (HBB9.out.trans (hB10.mono HBB9.out.size))
              have hfr : ∀ x ∈ ns, RoFr w10 x := fun x hx => (HO9.out.2 x hx).below hB10
              have HM13 := hid (show ManIn w10 C9 n9 f9 (ns.take k0 ++ ns.drop (k0 + 1)) from ⟨⟨_, Reads.of_own (own_below R13.out hB10)⟩, fun x hx => (hfr x ((less_sub ns k0).subset hx)).inn, by have h1 := HN9.out; have h2 := HK9.out; rw [List.length_append, List.length_take, List.length_drop] at h1; omega⟩)
              have HM14 := hid (show ManIn w10 C10 n10 f10 (ns.take (k0 + 1) ++ ns.drop k0) from ⟨⟨_, Reads.of_own hC10⟩, fun x hx => (hfr x (by
                rcases List.mem_append.1 hx with h | h
                · exact List.mem_of_mem_take h
                · exact List.mem_of_mem_drop h)).inn, by have h1 := HN10.out; have h2 := HK9.out; rw [List.length_append, List.length_take, List.length_drop] at h1; omega⟩)
              have HKS := hid (show Blk w10 g 24 #[.slice (some ad) i f] ∧ Blk w10 b13 24 #[.slice C9 n9 f9] ∧ Blk w10 b14 24 #[.slice C10 n10 f10] from ⟨KM9.out.under hB10, K13.out.under hB10, hK10⟩)
              have HO10 := hid (show w10.ownsRow w1.heap.size 42 7 (.slice (some ad) i f) i (ns.flatMap cellsR) ∧ ∀ x ∈ ns, RoFr w10 x from ⟨own_below HO9.out.1 hB10, hfr⟩)
              have HC1 := hid (Check_c C9 n9 f9 _ w10 HM13.out)
              have he1 : manE ((ns.take k0 ++ ns.drop (k0 + 1)).map RoA.d) = 0 := by
                rw [List.map_append, List.map_take, List.map_drop, ← HL.out]
                unfold manE
                rw [man_less HOK.out k0]
                rfl
              rw [he1] at HC1
              have hkl : k0 < l.length := by rw [HL.out, List.length_map, HK9.out.1]; exact hk0i
              have he2 : manE ((ns.take (k0 + 1) ++ ns.drop k0).map RoA.d) = 320 := by
                rw [List.map_append, List.map_take, List.map_drop, ← HL.out]
                unfold manE
                rw [man_twice hkl]
                rfl
              have HE2 := hid he2
              clear hB10 hK10 hC10 hfr KM9 HM9 HO9 HBB9 K13 R13 HS2 HCA2 he1 he2 hkl hkB2 hkC hkD hkE HM13
              have c13 : w10.cell? ⟨b13, 0, none⟩ = some (.slice C9 n9 f9) := HKS.out.2.1.cell 0
              go_wp2_with fail
              refine HC1.out.mono ?_
              rintro e w11 ⟨rfl, hb11⟩
              replace HKS := hid (show Blk w11 g 24 #[.slice (some ad) i f] ∧ Blk w11 b14 24 #[.slice C10 n10 f10] from ⟨HKS.out.1.under hb11, HKS.out.2.2.under hb11⟩)
              replace HO10 := hid (show w11.ownsRow w1.heap.size 42 7 (.slice (some ad) i f) i (ns.flatMap cellsR) ∧ ∀ x ∈ ns, RoFr w11 x from ⟨own_below HO10.out.1 hb11, fun x hx => (HO10.out.2 x hx).below hb11⟩)
              replace HBT := hid (HBT.out.trans (hb11.mono HBT.out.size))
              replace HM14 := hid (HM14.out.below hb11)
              have HC2 := hid (Check_c C10 n10 f10 _ w11 HM14.out)
              rw [HE2.out] at HC2
              clear hb11 c13 HC1 HM14 HE2
              have c14 : w11.cell? ⟨b14, 0, none⟩ = some (.slice C10 n10 f10) := HKS.out.2.cell 0
              go_wp2_with fail
              refine HC2.out.mono ?_
              rintro e w12 ⟨rfl, hb12⟩
              replace HKS := hid (HKS.out.1.under hb12)
              replace HO10 := hid (show w12.ownsRow w1.heap.size 42 7 (.slice (some ad) i f) i (ns.flatMap cellsR) ∧ ∀ x ∈ ns, RoFr w12 x from ⟨own_below HO10.out.1 hb12, fun x hx => (HO10.out.2 x hx).below hb12⟩)
              replace HBT := hid (HBT.out.trans (hb12.mono HBT.out.size))
              have HRV := hid (rev_c HO10.out.1 (show i ≤ 1000000 by omega))
              clear hb12 c14 HC2
              have c0 : w12.cell? ⟨g, 0, none⟩ = some (.slice (some ad) i f) := HKS.out.cell 0
              go_wp2_with fail
              refine HRV.out.mono ?_
              rintro e w13 ⟨rfl, hown13, hg13⟩
              replace HKS := hid (HKS.out.grown hg13 (HKS.out.not_row (by decide) HO10.out.1))
              have HM13 := hid (show ManIn w13 (some ad) i f ns.reverse from ⟨⟨_, Reads.of_own hown13⟩, fun x hx => ((HO10.out.2 x (List.mem_reverse.1 hx)).grown HO10.out.1 hg13).inn, by omega⟩)
              replace HBT := hid (HBT.out.grown hg13 HBT.out.size (fun k hk => Nat.le_trans hw1 (HO10.out.1.lt k hk).1))
              clear hown13 hg13 c0 HRV HO10
              have c0 : w13.cell? ⟨g, 0, none⟩ = some (.slice (some ad) i f) := HKS.out.cell 0
              by_cases hi1 : i = 1
              · have hiE : ((i : Int) == 1) = true := by simp [hi1]
                clear hi1
                go_wp2_with fail
                go_ret
                exact ⟨rfl, HBT.out⟩
              · have hiE : ((i : Int) == 1) = false := by simp; omega
                have HC3 := hid (Check_c (some ad) i f _ w13 HM13.out)
                have he3 : manE (ns.reverse.map RoA.d) = 320 := by
                  rw [List.map_reverse, ← HL.out]
                  unfold manE
                  rw [man_rev HOK.out (by rw [HL.out, List.length_map, HK9.out.1]; omega)]
                  rfl
                rw [he3] at HC3
                clear he3 hi1
                go_wp2_with fail
                refine HC3.out.mono ?_
                rintro e w14 ⟨rfl, hb14⟩
                replace HBT := hid (HBT.out.trans (hb14.mono HBT.out.size))
                clear hb14 c0 HC3
                go_wp2_with fail
                go_ret
                exact ⟨rfl, HBT.out⟩
end Go.Proofs.Ytgdnpmjmkcccoaa
namespace Go.Proofs.Ytgdnpmjmkcccoaa
open Go.RowKit Go.Shelf VB
open Go.Lib (hid)
theorem mpages_in (B : Option Addr) (m cB : Nat) (rows : List RoA) (t : Int) (w : World) (w0 : MArg w B m cB rows) (w1 : (Lit.int .i64 t).wf = true) :
    Calls Try.prog 9 #[.agg #[.slice B m cB], .int .i64 t] w fun e w' => e = .returned (.bool true) ∧ Below w.heap.size w w' :=
  mpages_core B m cB rows t w w0 (by
    rw [Lit.wf_int_iff, IntKind.min_i64, IntKind.max_i64] at w1; omega)
end Go.Proofs.Ytgdnpmjmkcccoaa
