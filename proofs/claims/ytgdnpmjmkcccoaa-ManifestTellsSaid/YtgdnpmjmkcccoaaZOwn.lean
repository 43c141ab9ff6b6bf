/- A region that draws its order, where what the loads read holds until one operation (the first store) has come. Manifest laws: own of law22 (printed by gen_own.py). -/
import Derived.Test.YtgdnpmjmkcccoaaZManT
namespace Go.Proofs.Ytgdnpmjmkcccoaa
section
variable {P : Program} {ops : Array Oper} {Q : Exit → Act → World → Prop} {S : World → Prop} {t : Nat}
/-- whatever order comes: S holds as long as number t has not come -/
def AnyTill (P : Program) (ops : Array Oper) (Q : Exit → Act → World → Prop) (S : World → Prop) (t : Nat) : Nat → Array Bool → Act → World → Prop
  | 0, l, a, w => Region.ready .any ops l = [] ∧ Q .normal a w
  | k + 1, l, a, w => (Region.ready .any ops l = [] → Q .normal a w) ∧
    ∀ j ∈ Region.ready .any ops l, wpOp P ops Q j (fun a' w' => ((l.setIfInBounds j true).getD t true = false → S w') ∧ AnyTill P ops Q S t k (l.setIfInBounds j true) a' w') a w
theorem AnyTill.any : ∀ (k : Nat) (l : Array Bool) (a : Act) (w : World), AnyTill P ops Q S t k l a w → wpAny P .any ops Q k l a w
  | 0, _, _, _, h => h
  | k + 1, _, _, _, h => ⟨h.1, fun j hj => wpOp_mono (fun _ _ h2 => AnyTill.any k _ _ _ h2.2) (h.2 j hj)⟩
theorem AnyTill.begin {id : Nat} {a : Act} {w : World} (hm : P.follows .mixedOrders = true) (hS : S w.drew) (h : S w.drew → AnyTill P ops Q S t ops.size (Array.replicate ops.size false) a w.drew) : (Code.region id ops true).wp P Q a w :=
  wp_region_any hm (AnyTill.any _ _ _ _ (h hS))
/-- t waits for i -/
def waitsB (ops : Array Oper) (t i : Nat) : Bool := ((ops[t]?).map fun o => o.after.any fun e => Region.binds .any e && e.on == i).getD false
theorem waits_not {i j : Nat} {oj : Oper} (hw : waitsB ops t i = true) (hj : ops[j]? = some oj) (hn : ∀ e ∈ oj.after, Region.binds .any e = true → e.on ≠ i) : j ≠ t := by
  rintro rfl
  unfold waitsB at hw
  rw [hj] at hw
  simp only [Option.map_some, Option.getD_some, Array.any_eq_true] at hw
  obtain ⟨n, hn1, hn2⟩ := hw
  simp only [Bool.and_eq_true, beq_iff_eq] at hn2
  exact hn _ (Array.getElem_mem hn1) hn2.1 hn2.2
theorem AnyTill.first {i : Nat} {oi : Oper} {v : Value} (hi : ops[i]? = some oi) (hsel : ∀ (j : Nat) (o : Oper) cs b, ops[j]? = some o → o.op ≠ .select cs b) (hw : waitsB ops t i = true) (hit : i ≠ t)
    (hQ : ∀ c a w, Q (.panic c) (a.put oi.dst v) w → Q (.panic c) a w) : ∀ (k : Nat) (l : Array Bool) (a : Act) (w : World), l.getD t true = false →
      (∀ j oj, ops[j]? = some oj → j ≠ i → l.getD j true = false → (∀ e ∈ oj.after, Region.binds .any e = true → e.on ≠ i) → oi.apart ops oj = true) →
      i ∈ Region.ready .any ops l → YieldsIf P ops S oi v a → S w → AnyTill P ops Q S t k (l.setIfInBounds i true) (a.put oi.dst v) w → AnyTill P ops Q S t (k + 1) l a w := by
  intro k
  induction k with
  | zero =>
    intro l a w hlt _ hr hy hS H
    refine ⟨fun h => (by rw [h] at hr; cases hr), fun j hj => ?_⟩
    by_cases hji : j = i
    · subst hji
      exact hy.wpOp hi hS ⟨fun _ => hS, H⟩
    · have h := ready_mono hj hji
      rw [H.1] at h
      cases h
  | succ k ih =>
    intro l a w hlt hfree hr hy hS H
    refine ⟨fun h => (by rw [h] at hr; cases hr), fun j hj => ?_⟩
    by_cases hji : j = i
    · subst hji
      exact hy.wpOp hi hS ⟨fun _ => hS, H⟩
    · obtain ⟨hju, oj, hoj, hall⟩ := mem_ready.1 hj
      have hnot : ∀ e ∈ oj.after, Region.binds .any e = true → e.on ≠ i := by
        intro e he hb heq
        have h1 := hall e he hb
        have h0 := (mem_ready.1 hr).1
        rw [heq] at h1
        rcases Nat.lt_or_ge i l.size with h' | h'
        · simp [h'] at h0 h1; rw [h0] at h1; cases h1
        · simp [Array.getElem?_eq_none h'] at h1
      have hjt : j ≠ t := waits_not hw hoj hnot
      have h2 := wpOp_putIf hoj (hfree j oj hoj hji hju hnot) (fun cs b => hsel i oi cs b hi) (fun cs b => hsel j oj cs b hoj) hQ hy (H.2 j (ready_mono hj hji))
      have hlt2 : (l.setIfInBounds j true).getD t true = false := by rw [getD_set_ne true hjt]; exact hlt
      have hlt3 : ((l.setIfInBounds i true).setIfInBounds j true).getD t true = false := by rw [getD_set_ne true hjt, getD_set_ne true hit]; exact hlt
      refine wpOp_mono (fun a' w' h3 => ⟨fun _ => h3.2.1 hlt3, ih (l.setIfInBounds j true) a' w' hlt2 ?_ (ready_mono hr (Ne.symm hji)) h3.1 (h3.2.1 hlt3) (by rw [Array.setIfInBounds_comm _ _ hji]; exact h3.2.2)⟩) h2
      intro m om hm hmi hun hno
      refine hfree m om hm hmi ?_ hno
      by_cases hjm : j = m
      · subst hjm; exact hju
      · rw [getD_set_ne true hjm] at hun; exact hun
theorem AnyTill.take {i : Nat} {oi : Oper} {v : Value} {k : Nat} {l : Array Bool} {a : Act} {w : World} (hi : ops[i]? = some oi) (hs : Region.noSelect ops = true) (hf : Region.free .any ops l i = true) (hr : (Region.ready .any ops l).contains i = true)
    (hw : (waitsB ops t i && (i != t)) = true) (hlt : l.getD t true = false) (hQ : ∀ c a w, Q (.panic c) (a.put oi.dst v) w → Q (.panic c) a w) (hy : YieldsIf P ops S oi v a) (hS : S w)
    (h : AnyTill P ops Q S t k (l.setIfInBounds i true) (a.put oi.dst v) w) : AnyTill P ops Q S t (k + 1) l a w := by
  simp only [Bool.and_eq_true, bne_iff_ne] at hw
  exact AnyTill.first hi (Region.noSelect_spec hs) hw.1 hw.2 hQ k l a w hlt (Region.free_spec hi hf) (by simpa using hr) hy hS h
/-- what yields in whatever world need not be waited for -/
theorem AnyTill.firstP {i : Nat} {oi : Oper} {v : Value} (hi : ops[i]? = some oi) (hsel : ∀ (j : Nat) (o : Oper) cs b, ops[j]? = some o → o.op ≠ .select cs b) (hit : i ≠ t)
    (hQ : ∀ c a w, Q (.panic c) (a.put oi.dst v) w → Q (.panic c) a w) : ∀ (k : Nat) (l : Array Bool) (a : Act) (w : World),
      (∀ j oj, ops[j]? = some oj → j ≠ i → l.getD j true = false → (∀ e ∈ oj.after, Region.binds .any e = true → e.on ≠ i) → oi.apart ops oj = true) →
      i ∈ Region.ready .any ops l → YieldsIf P ops (fun _ => True) oi v a → (l.getD t true = false → S w) → AnyTill P ops Q S t k (l.setIfInBounds i true) (a.put oi.dst v) w → AnyTill P ops Q S t (k + 1) l a w := by
  intro k
  induction k with
  | zero =>
    intro l a w hfree hr hy hS H
    refine ⟨fun h => (by rw [h] at hr; cases hr), fun j hj => ?_⟩
    by_cases hji : j = i
    · subst hji
      exact hy.wpOp hi trivial ⟨fun h => hS (by rw [getD_set_ne true hit] at h; exact h), H⟩
    · have h := ready_mono hj hji
      rw [H.1] at h
      cases h
  | succ k ih =>
    intro l a w hfree hr hy hS H
    refine ⟨fun h => (by rw [h] at hr; cases hr), fun j hj => ?_⟩
    by_cases hji : j = i
    · subst hji
      exact hy.wpOp hi trivial ⟨fun h => hS (by rw [getD_set_ne true hit] at h; exact h), H⟩
    · obtain ⟨hju, oj, hoj, hall⟩ := mem_ready.1 hj
      have hnot : ∀ e ∈ oj.after, Region.binds .any e = true → e.on ≠ i := by
        intro e he hb heq
        have h1 := hall e he hb
        have h0 := (mem_ready.1 hr).1
        rw [heq] at h1
        rcases Nat.lt_or_ge i l.size with h' | h'
        · simp [h'] at h0 h1; rw [h0] at h1; cases h1
        · simp [Array.getElem?_eq_none h'] at h1
      have h2 := wpOp_putIf hoj (hfree j oj hoj hji hju hnot) (fun cs b => hsel i oi cs b hi) (fun cs b => hsel j oj cs b hoj) hQ hy (H.2 j (ready_mono hj hji))
      have hS2 : ∀ w' : World, (((l.setIfInBounds i true).setIfInBounds j true).getD t true = false → S w') → ((l.setIfInBounds j true).getD t true = false → S w') := fun w' h3 h => h3 (by rw [← Array.setIfInBounds_comm _ _ hji, getD_set_ne true hit]; exact h)
      refine wpOp_mono (fun a' w' h3 => ⟨hS2 w' h3.2.1, ih (l.setIfInBounds j true) a' w' ?_ (ready_mono hr (Ne.symm hji)) h3.1 (hS2 w' h3.2.1) (by rw [Array.setIfInBounds_comm _ _ hji]; exact h3.2.2)⟩) h2
      intro m om hm hmi hun hno
      refine hfree m om hm hmi ?_ hno
      by_cases hjm : j = m
      · subst hjm; exact hju
      · rw [getD_set_ne true hjm] at hun; exact hun
theorem AnyTill.takeP {i : Nat} {oi : Oper} {v : Value} {k : Nat} {l : Array Bool} {a : Act} {w : World} (hi : ops[i]? = some oi) (hs : Region.noSelect ops = true) (hf : Region.free .any ops l i = true) (hr : (Region.ready .any ops l).contains i = true)
    (hw : (i != t) = true) (hQ : ∀ c a w, Q (.panic c) (a.put oi.dst v) w → Q (.panic c) a w) (hy : YieldsIf P ops (fun _ => True) oi v a) (hS : l.getD t true = false → S w)
    (h : AnyTill P ops Q S t k (l.setIfInBounds i true) (a.put oi.dst v) w) : AnyTill P ops Q S t (k + 1) l a w := by
  simp only [bne_iff_ne] at hw
  exact AnyTill.firstP hi (Region.noSelect_spec hs) hw hQ k l a w (Region.free_spec hi hf) (by simpa using hr) hy hS h
theorem AnyTill.one {j : Nat} {o : Oper} {k : Nat} {l : Array Bool} {a : Act} {w : World} (hr : Region.ready .any ops l = [j]) (ho : ops[j]? = some o)
    (h : ∀ K' : Act → World → Prop, Shut (∀ a w, ((l.setIfInBounds j true).getD t true = false → S w) → AnyTill P ops Q S t k (l.setIfInBounds j true) a w → K' a w) → if Region.wanted o (yielded ops a.tmps) = true then Oper.wp P o a w K' Q else K' (a.put o.dst undef) w) : AnyTill P ops Q S t (k + 1) l a w := by
  refine ⟨fun h => (by rw [h] at hr; cases hr), fun j' hj => ?_⟩
  rw [hr] at hj
  obtain rfl := List.mem_singleton.1 hj
  exact wpOp_step ho fun K' hK => h K' fun a w h1 h2 => hK a w ⟨h1, h2⟩
theorem AnyTill.done {l : Array Bool} {a : Act} {w : World} (hr : Region.ready .any ops l = []) (h : Q .normal a w) : ∀ k, AnyTill P ops Q S t k l a w
  | 0 => ⟨hr, h⟩
  | _ + 1 => ⟨fun _ => h, by rw [hr]; simp⟩
end
end Go.Proofs.Ytgdnpmjmkcccoaa
namespace Go.Proofs.Ytgdnpmjmkcccoaa
open Go.RowKit Go.Shelf VB
open Go.Lib (hid)
set_option linter.unusedVariables false
set_option linter.unusedSimpArgs false
theorem cellsNs_one (l : List EnA) : ∀ v ∈ l.flatMap cellsN, v.oneCell' = true := by
  intro v hv
  obtain ⟨q, _, hq⟩ := List.mem_flatMap.1 hv
  exact cellsN_one q v hq
theorem ints_one (l : List Int) : ∀ v ∈ l.map (Value.int .i64), v.oneCell' = true := by
  intro v hv
  obtain ⟨q, _, rfl⟩ := List.mem_map.1 hv
  rfl
set_option maxHeartbeats 400000 in
theorem clone_e {e' : TypeId} (A : Option Addr) (n c : Nat) (l : List EnA) (w : World) (hb : Reads w e' 5 A n (l.flatMap cellsN)) (hn : n ≤ 100000000) :
    Calls Try.prog 36 #[.slice A n c] w fun e w' => ∃ C f, e = .returned (.slice C n f) ∧ w'.ownsRow w.heap.size 45 5 (.slice C n f) n (l.flatMap cellsN) ∧ Below w.heap.size w w' := by
  have q22 : ∀ (w : World) (a : Option Addr) (n c n' c' : Nat), (binOp .eql 39 (.slice a n c) (.slice none n' c')).run Try.prog w = .ok (.bool a.isNone) w := fun w a n c n' c' => Lib.run_eql_slice_nil w _ _ a n c n' c' Try.underlying39
  have HB := Lib.hid hb
  cases A with
  | none =>
    obtain ⟨rfl, h0⟩ := nil_readsS hb
    rw [h0]
    clear hb h0
    go_enter Try.func36, Try.ntmps36
    go_wp2
    go_ret
    exact ⟨none, 0, rfl, World.ownsRow_nil _ _ _ _, Below.refl _ _⟩
  | some ad =>
    clear hb
    obtain ⟨i0, hi0, hz0, hz1, hz2⟩ := info_parts3 entry_info
    go_enter Try.func36, Try.ntmps36
    go_wp2_with (at_builtin; refine wpList_append_anyS _ rfl (.tmp 5) (.tmp 6) 39 rfl w.heap.size 45 i0 (.agg zEn) 5 56 Try.underlying39 hi0 hz0 hz1 hz2 rfl (by decide) _ 0 [] rfl (own_emptyS w 45 5) e' ad n c (l.flatMap cellsN) rfl (HB.out.alloc _) (cellsNs_one l) (by simp only [maxLen]; omega) (by omega) (by simp) ?_; intro v' w' hown' hg')
    rw [Nat.zero_add] at hown'
    obtain ⟨C, f, rfl, _, _⟩ := own_form hown'
    have hB : Below w.heap.size w w' := ((Below.refl _ w).alloc (Nat.le_refl _) _).grown hg' (by simp) (by intro k hk; cases hk; exact Nat.le_refl _)
    go_wp2
    go_ret
    exact ⟨C, f, rfl, by simpa using hown', hB⟩
set_option maxHeartbeats 400000 in
theorem clone_n {e' : TypeId} (A : Option Addr) (n c : Nat) (l : List Int) (w : World) (hb : Reads w e' 1 A n (l.map (Value.int .i64))) (hn : n ≤ 100000000) :
    Calls Try.prog 38 #[.slice A n c] w fun e w' => ∃ C f, e = .returned (.slice C n f) ∧ w'.ownsRow w.heap.size 3 1 (.slice C n f) n (l.map (Value.int .i64)) ∧ Below w.heap.size w w' := by
  have q22 : ∀ (w : World) (a : Option Addr) (n c n' c' : Nat), (binOp .eql 43 (.slice a n c) (.slice none n' c')).run Try.prog w = .ok (.bool a.isNone) w := fun w a n c n' c' => Lib.run_eql_slice_nil w _ _ a n c n' c' Try.underlying43
  have HB := Lib.hid hb
  cases A with
  | none =>
    obtain ⟨rfl, h0⟩ := nil_readsS hb
    rw [h0]
    clear hb h0
    go_enter Try.func38, Try.ntmps38
    go_wp2
    go_ret
    exact ⟨none, 0, rfl, World.ownsRow_nil _ _ _ _, Below.refl _ _⟩
  | some ad =>
    clear hb
    obtain ⟨i0, hi0, hz0, hz1, hz2⟩ := info_parts3 int_info2
    go_enter Try.func38, Try.ntmps38
    go_wp2_with (at_builtin; refine wpList_append_anyS _ rfl (.tmp 5) (.tmp 6) 43 rfl w.heap.size 3 i0 (.int .i64 0) 1 8 Try.underlying43 hi0 hz0 hz1 hz2 rfl (by decide) _ 0 [] rfl (own_emptyS w 3 1) e' ad n c (l.map (Value.int .i64)) rfl (HB.out.alloc _) (ints_one l) (by simp only [maxLen]; omega) (by omega) (by simp) ?_; intro v' w' hown' hg')
    rw [Nat.zero_add] at hown'
    obtain ⟨C, f, rfl, _, _⟩ := own_form hown'
    have hB : Below w.heap.size w w' := ((Below.refl _ w).alloc (Nat.le_refl _) _).grown hg' (by simp) (by intro k hk; cases hk; exact Nat.le_refl _)
    go_wp2
    go_ret
    exact ⟨C, f, rfl, by simpa using hown', hB⟩
theorem take_cellsN (l : List EnA) (k : Nat) : (l.flatMap cellsN).take (k * 5) = (l.take k).flatMap cellsN := by
  induction l generalizing k with
  | nil => simp
  | cons x l ih =>
    cases k with
    | zero => simp
    | succ k =>
      rw [List.take_succ_cons, List.flatMap_cons, List.flatMap_cons, ← ih k, show (k + 1) * 5 = (cellsN x).length + k * 5 by simp only [cellsN, List.length_cons, List.length_nil]; omega, List.take_length_add_append]
theorem own_put {w : World} {base n f size : Nat} {e : TypeId} {ad : Addr} {xs : List Value} (h : w.ownsRow base e size (.slice (some ad) n f) n xs) {k r : Nat} (hk : k * size + r < n * size) (u : Value) :
    (w.setCell ⟨(ad.add (k * size)).block, (ad.add (k * size)).off + r, none⟩ u).ownsRow base e size (.slice (some ad) n f) n (xs.set (k * size + r) u) ∧ w.frozen? ⟨(ad.add (k * size)).block, (ad.add (k * size)).off + r, none⟩ = false ∧ ad.block < w.heap.size ∧ base ≤ ad.block ∧ (ad.add (k * size)).block = ad.block ∧ (∀ v, xs[k * size + r]? = some v → w.cell? ⟨(ad.add (k * size)).block, (ad.add (k * size)).off + r, none⟩ = some v) := by
  obtain ⟨h1, h2⟩ := h
  rcases h2 with ⟨h2, _⟩ | ⟨g, cap, cur, h2, hb, hg, hn, hc, hs, ht⟩
  · cases h2
  · injection h2 with h3 h4 h5
    injection h3 with h3
    subst h3
    have ha : (⟨g, 0, none⟩ : Addr).add (k * size) = ⟨g, k * size, none⟩ := by rw [Addr.add_lit]; simp
    rw [ha]
    have hB : Blk w g e cur := hg
    refine ⟨⟨by rw [List.length_set]; exact h1, .inr ⟨g, cap, cur.setIfInBounds (k * size + r) u, by rw [h5], hb, hB.set_ _ u, hn, hc, by simpa using hs, ?_⟩⟩, hB.frozen _, hB.lt, hb, rfl, fun v hv => ?_⟩
    · rw [Array.toList_setIfInBounds, ← ht, List.take_set]
    · rw [hB.cell, ← Array.getElem?_toList]
      rw [← ht, List.getElem?_take_of_lt hk] at hv
      exact hv
theorem get_here (dn rest : List EnA) (e : EnA) : ((dn ++ e :: rest).flatMap cellsN)[dn.length * 5 + 3]? = some (.slice e.2.1 e.1.ps.length e.2.2) := by
  have hl : (dn.flatMap cellsN).length = dn.length * 5 := recs_len cellsN_len dn
  rw [List.flatMap_append, List.flatMap_cons, List.getElem?_append_right (by rw [hl]; omega), hl, show dn.length * 5 + 3 - dn.length * 5 = 3 by omega, List.getElem?_append_left (by rw [cellsN_len]; omega)]
  rfl
theorem set_here (dn rest : List EnA) (e e' : EnA) (u : Value) (h : (cellsN e).set 3 u = cellsN e') : ((dn ++ e :: rest).flatMap cellsN).set (dn.length * 5 + 3) u = ((dn ++ [e']) ++ rest).flatMap cellsN := by
  rw [List.flatMap_append, List.flatMap_cons, List.flatMap_append, List.flatMap_append, List.flatMap_singleton, ← h]
  have hl : (dn.flatMap cellsN).length = dn.length * 5 := recs_len cellsN_len dn
  rw [List.set_append_right _ _ (by rw [hl]; omega), hl, show dn.length * 5 + 3 - dn.length * 5 = 3 by omega, List.set_append_left _ _ (by rw [cellsN_len]; omega), List.append_assoc]
theorem RoFr.set {w : World} {x : RoA} (h : RoFr w x) {g i : Nat} {t : TypeId} {cs : Array Value} (k : Blk w g t cs) (ht : t ≠ 45 ∧ t ≠ 3 ∧ t ≠ 47) (u : Value) : RoFr (w.setCell ⟨g, i, none⟩ u) x := by
  refine h.keep fun b t' hb ht' => Below.heap_setCell _ _ _ b ?_
  rintro rfl
  obtain ⟨c1, r1, h1⟩ := hb
  unfold Blk at k
  rw [k] at h1
  injection h1 with h1
  injection h1 with _ h3
  subst h3
  rcases ht' with h | h | h
  · exact ht.1 h
  · exact ht.2.1 h
  · exact ht.2.2 h
/-- a manifest that came in -/
structure RoArg (w : World) (x : RoA) : Prop where
  en : ∃ e, Reads w e 5 x.ea x.en.length (x.en.flatMap cellsN)
  enc : x.en.length ≤ x.ec ∧ x.ec ≤ maxLen
  ens : ∀ e ∈ x.en, (∃ t, Reads w t 1 e.2.1 e.1.ps.length (e.1.ps.map (Value.int .i64))) ∧ (e.1.ps.length ≤ e.2.2 ∧ e.2.2 ≤ maxLen) ∧ e.1.fs ≤ 9223372036854775807
  op : ∃ e, Reads w e 2 x.oa x.op.length (x.op.flatMap cellsP)
  opc : x.op.length ≤ x.oc ∧ x.oc ≤ maxLen
structure MArg (w : World) (A : Option Addr) (n c : Nat) (l : List RoA) : Prop where
  rows : ∃ e, Reads w e 7 A n (l.flatMap cellsR)
  each : ∀ x ∈ l, RoArg w x
  hn : n ≤ c
  hc : c ≤ maxLen
theorem RoArg.below {w w' : World} {x : RoA} (h : RoArg w x) (hb : Below w.heap.size w w') : RoArg w' x :=
  ⟨h.en.elim fun e k => ⟨e, k.below hb⟩, h.enc, fun e he => ⟨(h.ens e he).1.elim fun t k => ⟨t, k.below hb⟩, (h.ens e he).2⟩, h.op.elim fun e k => ⟨e, k.below hb⟩, h.opc⟩
def ownEn (e : En) : En := ⟨e.fs, e.ls, e.ct, e.by_, e.ps.take 40⟩
def ownRo (x : Ro) : Ro := ⟨x.nm.extract 0 (min x.nm.size 20), x.ep, x.fl, x.la, x.sc, (x.en.take 20).map ownEn, x.op.take 40⟩
def ownL (l : List Ro) (k : Nat) : List Ro := (l.take k).map ownRo
def RetOwn22 (l : List Ro) (w : World) (d : Ending) (w' : World) : Prop := ∃ (ns : List RoA) (C : Option Addr) (f : Nat), ns.map RoA.d = ownL l 9 ∧ d = .returned (.agg #[.slice C ns.length f]) ∧ w'.ownsRow w.heap.size 42 7 (.slice C ns.length f) ns.length (ns.flatMap cellsR) ∧ (∀ x ∈ ns, RoFr w' x) ∧ Below w.heap.size w w'
theorem grown_on {a w w' : World} {row : Option Nat} (h : a.grownBy w row) (hb : Below w.heap.size w w') : a.grownBy w' row :=
  ⟨hb.os.trans h.os, hb.tape.trans h.tape, hb.output.trans h.output, Nat.le_trans h.size hb.size, fun k hk hn => (hb.block k (Nat.lt_of_lt_of_le hk h.size)).trans (h.block k hk hn)⟩
theorem grown_set {a w : World} {row : Option Nat} (h : a.grownBy w row) {p : Addr} (hp : row = some p.block) (u : Value) : a.grownBy (w.setCell p u) row :=
  ⟨h.os, h.tape, h.output, by simpa using h.size, fun k hk hn => (Below.heap_setCell w p u k (fun e => hn (by rw [e, hp]))).trans (h.block k hk hn)⟩
theorem own_typedE {w : World} {base n f size : Nat} {e : TypeId} {ad : Addr} {xs : List Value} (h : w.ownsRow base e size (.slice (some ad) n f) n xs) : Typed w ad.block e := by
  obtain ⟨_, h2⟩ := h
  rcases h2 with ⟨h2, _⟩ | ⟨g, cap, cur, h2, hb, hg, _⟩
  · cases h2
  · injection h2 with h3 _ _
    injection h3 with h3
    subst h3
    exact ⟨_, _, hg⟩
theorem take_min' {α : Type} (l : List α) (k : Nat) : l.take (min l.length k) = l.take k := by
  by_cases h : l.length ≤ k
  · rw [Nat.min_eq_left h, List.take_of_length_le (Nat.le_refl _), List.take_of_length_le h]
  · rw [Nat.min_eq_right (by omega)]
theorem own_ne3 {w : World} {b1 b2 e t s1 s2 n1 n2 : Nat} {v1 v2 : Value} {xs ys : List Value} (h1 : w.ownsRow b1 e s1 v1 n1 xs) (h2 : w.ownsRow b2 t s2 v2 n2 ys) (hne : e ≠ t) : v1.ownBlock = none ∨ v1.ownBlock ≠ v2.ownBlock := by
  rcases h1.2 with ⟨rfl, _⟩ | ⟨g, cap, cur, rfl, _, hg, _⟩
  · exact .inl rfl
  · rcases h2.2 with ⟨rfl, _⟩ | ⟨g2, cap2, cur2, rfl, _, hg2, _⟩
    · exact .inr (by simp [Value.ownBlock])
    · right
      intro h
      injection h with h
      have h3 : g = g2 := h
      subst h3
      rw [hg] at hg2
      injection hg2 with hg2
      injection hg2 with _ h4
      exact hne h4
theorem own_succ {l : List Ro} {i : Nat} {x : Ro} (h : l[i]? = some x) : ownL l (i + 1) = ownL l i ++ [ownRo x] := by
  unfold ownL
  rw [List.take_succ_eq_append_getElem (List.getElem?_eq_some_iff.1 h).1, List.map_append, (List.getElem?_eq_some_iff.1 h).2]
  rfl
theorem own_all {l : List Ro} {i : Nat} (h : l.length = i) (h9 : i ≤ 9) : ownL l i = ownL l 9 := by
  unfold ownL
  rw [List.take_of_length_le (by omega), List.take_of_length_le (by omega)]
theorem own_fin {l : List Ro} {w W : World} {ns : List RoA} {C : Option Addr} {f b : Nat} {cs : Array Value} (hk : Blk W (w.heap.size + 1) 24 cs) (ho : W.ownsRow b 42 7 (.slice C ns.length f) ns.length (ns.flatMap cellsR)) (hf : ∀ x ∈ ns, RoFr W x) (hb : Below w.heap.size w W) (h3 : b = w.heap.size + 3) (hn : ns.map RoA.d = ownL l 9) :
    RetOwn22 l w (.returned (.agg #[.slice C ns.length f])) (W.setCell ⟨w.heap.size + 1, 0, none⟩ (.slice C ns.length f)) :=
  ⟨ns, C, f, hn, rfl, own_low (own_farM ho (a := ⟨w.heap.size + 1, 0, none⟩) (by simp; omega) _) (by omega), fun x hx => (hf x hx).set hk (by decide) _, hb.setCell (p := ⟨w.heap.size + 1, 0, none⟩) (by simp) _⟩
set_option maxRecDepth 100000 in
set_option maxHeartbeats 8000000 in
theorem own_22 (A : Option Addr) (n c : Nat) (rows : List RoA) (w : World) (h : MArg w A n c rows) :
    Calls Try.prog 11 #[.agg #[.slice A n c]] w (RetOwn22 (rows.map RoA.d) w) := by
  obtain ⟨i0, hi0, hz0, hz1, hz2⟩ := info_parts3 row_info
  have HI := hid (And.intro hi0 (And.intro hz0 (And.intro hz1 hz2)))
  obtain ⟨w3, hw3⟩ : ∃ w3, w3 = ((w.alloc (.cells #[.slice A n c] 24)).alloc (.cells #[.slice none 0 0] 24)).alloc (.cells #[.slice none 0 0] 24) := ⟨_, rfl⟩
  have hs3 : w3.heap.size = w.heap.size + 3 := by rw [hw3]; simp
  have k0 : w3.cell? ⟨w.heap.size, 0, none⟩ = some (.slice A n c) := by rw [hw3]; exact (((Blk.new w 24 #[.slice A n c]).alloc _).alloc _).cell 0
  have HB3 := hid (show Below w.heap.size w w3 by rw [hw3]; exact (((Below.refl _ _).alloc (Nat.le_refl _) _).alloc (by simp) _).alloc (by simp; omega) _)
  have K1 := hid (show Blk w3 (w.heap.size + 1) 24 #[.slice none 0 0] by rw [hw3]; exact (Blk.new_at _ _ _ (by simp)).alloc _)
  have K2 := hid (show Blk w3 (w.heap.size + 1 + 1) 24 #[.slice none 0 0] by rw [hw3]; exact Blk.new_at _ _ _ (by simp))
  have HM := hid h
  have hln : rows.length = n := by obtain ⟨e, hr⟩ := h.rows; have := hr.1; rw [recs_len cellsR_len] at this; omega
  have HLN := hid hln
  have hnm : n ≤ 9223372036854775807 := by have := h.hn; have := h.hc; unfold maxLen at this; omega
  clear hi0 hz0 hz1 hz2 h hln
  rw [hw3] at k0
  go_enter Try.func11, Try.ntmps11
  go_wp2_with fail
  rw [← hw3]
  clear k0 hw3
  go_loopw [11] (fun u11 wr => ∃ (i : Nat) (ns : List RoA) (C : Option Addr) (f : Nat), i ≤ n ∧ i ≤ 9 ∧ u11 = .int .i64 (i : Nat) ∧ Hid (Blk wr (w.heap.size + 1) 24 #[.slice none 0 0] ∧ Blk wr (w.heap.size + 1 + 1) 24 #[.slice C ns.length f] ∧ wr.ownsRow w3.heap.size 42 7 (.slice C ns.length f) ns.length (ns.flatMap cellsR) ∧ (∀ x ∈ ns, RoFr wr x)) ∧ Hid ((Below w.heap.size w wr ∧ w3.heap.size ≤ wr.heap.size) ∧ ns.map RoA.d = ownL (rows.map RoA.d) i)) (fun u11 _ => n - (intOf u11).toNat)
  case atStart => exact ⟨0, [], none, 0, Nat.zero_le _, Nat.zero_le _, rfl, hid ⟨K1.out, K2.out, World.ownsRow_nil _ _ _ _, fun x hx => absurd hx (by simp)⟩, hid ⟨⟨HB3.out, Nat.le_refl _⟩, rfl⟩⟩
  case round =>
    obtain ⟨i, ns, C, f, hi, hi9, rfl, hst, hbn⟩ := hrel
    obtain ⟨wo, rfl⟩ : ∃ wo : World, wo = wr := ⟨_, rfl⟩
    have hsw : w3.heap.size ≤ wo.heap.size := hbn.out.1.2
    by_cases hlt : i < n
    · obtain ⟨er, hrw⟩ := HM.out.rows
      obtain ⟨ad, x, rfl, hx, hxl, c0, c1, c2, c3, c4, c5, c6⟩ := row_at (hrw.below hbn.out.1.1) hlt
      have hltI : (i : Int) < (n : Int) := by omega
      have h0I : (0 : Int) ≤ (i : Int) := by omega
      have hrx := (HM.out.each x (List.mem_of_getElem? hx)).below hbn.out.1.1
      have HXE := hid (show (rows.map RoA.d)[i]? = some x.d by rw [List.getElem?_map, hx]; rfl)
      clear hx hxl hrw
      obtain ⟨nm, ep, fl, la, sc, en, ea, ec, op, oa, oc⟩ := x
      by_cases h8I : (8 : Int) < (i : Int)
      · have H9 := hid (show i = 9 by omega)
        simp only at c0 c1 c2 c3 c4 c5 c6
        have HF := hid (own_fin (hst.out.1.alloc (.cells (aR nm ep fl la sc (.slice ea en.length ec) (.slice oa op.length oc)) 42)) (hst.out.2.2.1.alloc _) (fun x hx => (hst.out.2.2.2 x hx).below ((Below.refl _ _).alloc (Nat.le_refl _) _)) (hbn.out.1.1.alloc hbn.out.1.1.size _) hs3 (hbn.out.2.trans (by rw [H9.out])))
        have k2 : (wo.alloc (.cells (aR nm ep fl la sc (.slice ea en.length ec) (.slice oa op.length oc)) 42)).cell? ⟨w.heap.size + 1 + 1, 0, none⟩ = some (.slice C ns.length f) := (hst.out.2.1.alloc _).cell 0
        have k1 : (wo.alloc (.cells (aR nm ep fl la sc (.slice ea en.length ec) (.slice oa op.length oc)) 42)).cell? ⟨w.heap.size + 1, 0, none⟩ = some (.slice none 0 0) := (hst.out.1.alloc _).cell 0
        have kf : (wo.alloc (.cells (aR nm ep fl la sc (.slice ea en.length ec) (.slice oa op.length oc)) 42)).frozen? ⟨w.heap.size + 1, 0, none⟩ = false := (hst.out.1.alloc _).frozen 0
        have kl : w.heap.size + 1 < (wo.alloc (.cells (aR nm ep fl la sc (.slice ea en.length ec) (.slice oa op.length oc)) 42)).heap.size := (hst.out.1.alloc _).lt
        have kd := ((hst.out.1.alloc (.cells (aR nm ep fl la sc (.slice ea en.length ec) (.slice oa op.length oc)) 42)).set_ 0 (.slice C ns.length f)).cell 0
        clear hst hbn hrx
        go_wp2_with fail
        refine bodyPost_ret (v := .agg #[.slice C ns.length f]) ?_ rfl HF.out
        simp [results, Try.results11, go_sem, kd]
      · obtain ⟨n1, hn1⟩ : ∃ n1, n1 = en.length := ⟨_, rfl⟩
        obtain ⟨n2, hn2⟩ : ∃ n2, n2 = op.length := ⟨_, rfl⟩
        obtain ⟨m1, hm1⟩ : ∃ m1, m1 = min nm.size 20 := ⟨_, rfl⟩
        obtain ⟨m2, hm2⟩ : ∃ m2, m2 = min n1 20 := ⟨_, rfl⟩
        obtain ⟨m3, hm3⟩ : ∃ m3, m3 = min n2 40 := ⟨_, rfl⟩
        simp only at c0 c1 c2 c3 c4 c5 c6
        rw [← hn1] at c5
        rw [← hn2] at c6
        have hmin1 : ∀ w, (Builtin.min_ #[3, 3] 3 #[.int .i64 (nm.size : Int), .int .i64 20]).run Try.prog w = .ok (.int .i64 (m1 : Nat)) w := min_at hm1 20 rfl
        have hmin2 : ∀ w, (Builtin.min_ #[3, 3] 3 #[.int .i64 (n1 : Int), .int .i64 20]).run Try.prog w = .ok (.int .i64 (m2 : Nat)) w := min_at hm2 20 rfl
        have hmin3 : ∀ w, (Builtin.min_ #[3, 3] 3 #[.int .i64 (n2 : Int), .int .i64 40]).run Try.prog w = .ok (.int .i64 (m3 : Nat)) w := min_at hm3 40 rfl
        have hec := hrx.enc
        have hoc := hrx.opc
        simp only at hec hoc
        rw [← hn1] at hec
        rw [← hn2] at hoc
        have g1 : ((m1 : Nat) : Int) ≤ (nm.size : Nat) := by omega
        have g1n : m1 ≤ nm.size := by omega
        have g2 : ((m2 : Nat) : Int) ≤ (ec : Nat) := by omega
        have g2n : m2 ≤ ec := by omega
        have g3 : ((m3 : Nat) : Int) ≤ (oc : Nat) := by omega
        have g3n : m3 ≤ oc := by omega
        have HRX := hid hrx
        have HST := hid hst.out
        have HBN := hid hbn.out
        have HMM := hid (And.intro (And.intro hn1 hn2) (And.intro hm1 (And.intro hm2 hm3)))
        obtain ⟨s1, hs1⟩ : ∃ s1, s1 = nm.extract 0 m1 := ⟨_, rfl⟩
        obtain ⟨w4, hw4⟩ : ∃ w4, w4 = wo.alloc (.cells (aR nm ep fl la sc (.slice ea n1 ec) (.slice oa n2 oc)) 42) := ⟨_, rfl⟩
        have k4 : Blk w4 wo.heap.size 42 (aR nm ep fl la sc (.slice ea n1 ec) (.slice oa n2 oc)) := by rw [hw4]; exact Blk.new _ _ _
        have hb4 : Below wo.heap.size wo w4 := by rw [hw4]; exact (Below.refl _ _).alloc (Nat.le_refl _) _
        have K5 := hid (show Blk (wo.alloc (.cells (aR (nm.extract 0 m1) ep fl la sc (.slice ea n1 ec) (.slice oa n2 oc)) 42)) wo.heap.size 42 (aR (nm.extract 0 m1) ep fl la sc (.slice ea n1 ec) (.slice oa n2 oc)) from Blk.new _ _ _)
        have HB5 := hid (show Below wo.heap.size wo (wo.alloc (.cells (aR (nm.extract 0 m1) ep fl la sc (.slice ea n1 ec) (.slice oa n2 oc)) 42)) from (Below.refl _ _).alloc (Nat.le_refl _) _)
        have HCE := hid (fun W (hW : Below wo.heap.size wo W) => (show Calls Try.prog 36 #[.slice ea m2 ec] W fun e w' => ∃ C f, e = .returned (.slice C m2 f) ∧ w'.ownsRow W.heap.size 45 5 (.slice C m2 f) m2 ((en.take m2).flatMap cellsN) ∧ Below W.heap.size W w' by
          obtain ⟨e, hr⟩ := hrx.en
          simp only at hr
          rw [← hn1] at hr
          have h2 := (hr.below hW).take (k := m2) (by omega)
          rw [take_cellsN] at h2
          exact clone_e ea m2 ec _ W h2 (by omega)))
        have HCP := hid (fun W (hW : Below wo.heap.size wo W) => (show Calls Try.prog 37 #[.slice oa m3 oc] W fun e w' => ∃ C f, e = .returned (.slice C m3 f) ∧ w'.ownsRow W.heap.size 47 2 (.slice C m3 f) m3 ((op.take m3).flatMap cellsP) ∧ Below W.heap.size W w' by
          obtain ⟨e, hr⟩ := hrx.op
          simp only at hr
          rw [← hn2] at hr
          have h2 := (hr.below hW).take (k := m3) (by omega)
          rw [take_cells] at h2
          exact clone_p oa m3 oc _ W h2 (by omega)))
        clear hn1 hn2 hm1 hm2 hm3 hec hoc hrx hst hbn k4 hb4 hw4
        go_upto_region 7 with fail
        clear c0 c1 c2 c3 c4 c5 c6
        generalize wo.alloc (.cells (aR (nm.extract 0 m1) ep fl la sc (.slice ea n1 ec) (.slice oa n2 oc)) 42) = w5 at *
        refine wp_region_noPanic ?_
        refine AnyTill.begin (S := (fun W => W.cell? ⟨wo.heap.size, 5, none⟩ = some (.slice ea n1 ec) ∧ W.cell? ⟨wo.heap.size, 6, none⟩ = some (.slice oa n2 oc))) (t := 17) (by kernel_rfl) ⟨K5.out.drew.cell 5, K5.out.drew.cell 6⟩ (fun hHeld => ?_)
        refine AnyTill.take (i := 0) (v := ?_) rfl (by kernel_rfl) (by kernel_rfl) (by kernel_rfl) (by kernel_rfl) (by kernel_rfl) (fun _ _ _ h => h) (Or.inl ⟨by rfl, ?_⟩) (by assumption) ?_
        rotate_left
        · intro W hW
          obtain ⟨x5, x6⟩ := hW
          go_simp
          try rfl
        simp only [List.getElem_toArray, List.getElem_cons_zero, Act.put, List.setIfInBounds_toArray, List.set_cons_zero, List.set_cons_succ]
        refine AnyTill.take (i := 1) (v := ?_) rfl (by kernel_rfl) (by kernel_rfl) (by kernel_rfl) (by kernel_rfl) (by kernel_rfl) (fun _ _ _ h => h) (Or.inl ⟨by rfl, ?_⟩) (by assumption) ?_
        rotate_left
        · intro W hW
          obtain ⟨x5, x6⟩ := hW
          go_simp
          try rfl
        simp only [List.getElem_toArray, List.getElem_cons_succ, List.getElem_cons_zero, Act.put, List.setIfInBounds_toArray, List.set_cons_zero, List.set_cons_succ]
        refine AnyTill.take (i := 2) (v := ?_) rfl (by kernel_rfl) (by kernel_rfl) (by kernel_rfl) (by kernel_rfl) (by kernel_rfl) (fun _ _ _ h => h) (Or.inl ⟨by rfl, ?_⟩) (by assumption) ?_
        rotate_left
        · intro W hW
          obtain ⟨x5, x6⟩ := hW
          go_simp
          try rfl
        simp only [List.getElem_toArray, List.getElem_cons_succ, List.getElem_cons_zero, Act.put, List.setIfInBounds_toArray, List.set_cons_zero, List.set_cons_succ]
        refine AnyTill.take (i := 3) (v := ?_) rfl (by kernel_rfl) (by kernel_rfl) (by kernel_rfl) (by kernel_rfl) (by kernel_rfl) (fun _ _ _ h => h) (Or.inl ⟨by rfl, ?_⟩) (by assumption) ?_
        rotate_left
        · intro W hW
          obtain ⟨x5, x6⟩ := hW
          go_simp
          try rfl
        simp only [List.getElem_toArray, List.getElem_cons_succ, List.getElem_cons_zero, Act.put, List.setIfInBounds_toArray, List.set_cons_zero, List.set_cons_succ]
        refine AnyTill.take (i := 4) (v := ?_) rfl (by kernel_rfl) (by kernel_rfl) (by kernel_rfl) (by kernel_rfl) (by kernel_rfl) (fun _ _ _ h => h) (Or.inl ⟨by rfl, ?_⟩) (by assumption) ?_
        rotate_left
        · intro W hW
          obtain ⟨x5, x6⟩ := hW
          go_simp
          try rfl
        simp only [List.getElem_toArray, List.getElem_cons_succ, List.getElem_cons_zero, Act.put, List.setIfInBounds_toArray, List.set_cons_zero, List.set_cons_succ]
        refine AnyTill.take (i := 5) (v := ?_) rfl (by kernel_rfl) (by kernel_rfl) (by kernel_rfl) (by kernel_rfl) (by kernel_rfl) (fun _ _ _ h => h) (Or.inl ⟨by rfl, ?_⟩) (by assumption) ?_
        rotate_left
        · intro W hW
          obtain ⟨x5, x6⟩ := hW
          go_simp
          try rfl
        simp only [List.getElem_toArray, List.getElem_cons_succ, List.getElem_cons_zero, Act.put, List.setIfInBounds_toArray, List.set_cons_zero, List.set_cons_succ]
        refine AnyTill.take (i := 6) (v := ?_) rfl (by kernel_rfl) (by kernel_rfl) (by kernel_rfl) (by kernel_rfl) (by kernel_rfl) (fun _ _ _ h => h) (Or.inl ⟨by rfl, ?_⟩) (by assumption) ?_
        rotate_left
        · intro W hW
          obtain ⟨x5, x6⟩ := hW
          go_simp
          try rfl
        simp only [List.getElem_toArray, List.getElem_cons_succ, List.getElem_cons_zero, Act.put, List.setIfInBounds_toArray, List.set_cons_zero, List.set_cons_succ]
        refine AnyTill.take (i := 8) (v := ?_) rfl (by kernel_rfl) (by kernel_rfl) (by kernel_rfl) (by kernel_rfl) (by kernel_rfl) (fun _ _ _ h => h) (Or.inl ⟨by rfl, ?_⟩) (by assumption) ?_
        rotate_left
        · intro W hW
          obtain ⟨x5, x6⟩ := hW
          go_simp
          try rfl
        simp only [List.getElem_toArray, List.getElem_cons_succ, List.getElem_cons_zero, Act.put, List.setIfInBounds_toArray, List.set_cons_zero, List.set_cons_succ]
        refine AnyTill.take (i := 9) (v := ?_) rfl (by kernel_rfl) (by kernel_rfl) (by kernel_rfl) (by kernel_rfl) (by kernel_rfl) (fun _ _ _ h => h) (Or.inl ⟨by rfl, ?_⟩) (by assumption) ?_
        rotate_left
        · intro W hW
          obtain ⟨x5, x6⟩ := hW
          go_simp
          try rfl
        simp only [List.getElem_toArray, List.getElem_cons_succ, List.getElem_cons_zero, Act.put, List.setIfInBounds_toArray, List.set_cons_zero, List.set_cons_succ]
        refine AnyTill.take (i := 10) (v := ?_) rfl (by kernel_rfl) (by kernel_rfl) (by kernel_rfl) (by kernel_rfl) (by kernel_rfl) (fun _ _ _ h => h) (Or.inl ⟨by rfl, ?_⟩) (by assumption) ?_
        rotate_left
        · intro W hW
          obtain ⟨x5, x6⟩ := hW
          go_simp
          try rfl
        simp only [List.getElem_toArray, List.getElem_cons_succ, List.getElem_cons_zero, Act.put, List.setIfInBounds_toArray, List.set_cons_zero, List.set_cons_succ]
        refine AnyTill.take (i := 11) (v := ?_) rfl (by kernel_rfl) (by kernel_rfl) (by kernel_rfl) (by kernel_rfl) (by kernel_rfl) (fun _ _ _ h => h) (Or.inl ⟨by rfl, ?_⟩) (by assumption) ?_
        rotate_left
        · intro W hW
          obtain ⟨x5, x6⟩ := hW
          go_simp
          try rfl
        simp only [List.getElem_toArray, List.getElem_cons_succ, List.getElem_cons_zero, Act.put, List.setIfInBounds_toArray, List.set_cons_zero, List.set_cons_succ]
        refine AnyTill.takeP (i := 12) (v := ?_) rfl (by kernel_rfl) (by kernel_rfl) (by kernel_rfl) (by kernel_rfl) (fun _ _ _ h => h) (Or.inl ⟨by rfl, ?_⟩) (fun _ => by assumption) ?_
        rotate_left
        · intro W hW
          go_simp
          try rfl
        simp only [List.getElem_toArray, List.getElem_cons_succ, List.getElem_cons_zero, Act.put, List.setIfInBounds_toArray, List.set_cons_zero, List.set_cons_succ]
        refine AnyTill.takeP (i := 13) (v := ?_) rfl (by kernel_rfl) (by kernel_rfl) (by kernel_rfl) (by kernel_rfl) (fun _ _ _ h => h) (Or.inl ⟨by rfl, ?_⟩) (fun _ => by assumption) ?_
        rotate_left
        · intro W hW
          go_simp
          try rfl
        simp only [List.getElem_toArray, List.getElem_cons_succ, List.getElem_cons_zero, Act.put, List.setIfInBounds_toArray, List.set_cons_zero, List.set_cons_succ]
        refine AnyTill.takeP (i := 14) (v := ?_) rfl (by kernel_rfl) (by kernel_rfl) (by kernel_rfl) (by kernel_rfl) (fun _ _ _ h => h) (Or.inl ⟨by rfl, ?_⟩) (fun _ => by assumption) ?_
        rotate_left
        · intro W hW
          go_simp
          try rfl
        simp only [List.getElem_toArray, List.getElem_cons_succ, List.getElem_cons_zero, Act.put, List.setIfInBounds_toArray, List.set_cons_zero, List.set_cons_succ]
        clear hHeld hmin1 hmin2 hmin3
        have hd5 := (HB5.out).drew
        refine AnyTill.one (j := 7) (by kernel_rfl) rfl (fun K hK => ?_)
        go_simp
        refine (HCE.out _ hd5).mono ?_
        rintro d w6 ⟨C1, f1, rfl, ho6, hb6⟩
        refine hK.out _ _ (fun _ => ⟨(K5.out.drew.under hb6).cell 5, (K5.out.drew.under hb6).cell 6⟩) ?_
        clear hK K
        try simp only [List.getElem_toArray, List.getElem_cons_succ, List.getElem_cons_zero, Act.put, List.setIfInBounds_toArray, List.set_cons_zero, List.set_cons_succ]
        have hd6 : Below wo.heap.size wo w6 := hd5.trans (hb6.mono hd5.size)
        refine AnyTill.takeP (i := 16) (v := ?_) rfl (by kernel_rfl) (by kernel_rfl) (by kernel_rfl) (by kernel_rfl) (fun _ _ _ h => h) (Or.inl ⟨by rfl, ?_⟩) (fun _ => ⟨(K5.out.drew.under hb6).cell 5, (K5.out.drew.under hb6).cell 6⟩) ?_
        rotate_left
        · intro W hW
          go_simp
          try rfl
        simp only [List.getElem_toArray, List.getElem_cons_succ, List.getElem_cons_zero, Act.put, List.setIfInBounds_toArray, List.set_cons_zero, List.set_cons_succ]
        refine AnyTill.one (j := 15) (by kernel_rfl) rfl (fun K hK => ?_)
        go_simp
        refine (HCP.out _ hd6).mono ?_
        rintro d w7 ⟨C2, f2, rfl, ho7, hb7⟩
        refine hK.out _ _ (fun _ => ⟨((K5.out.drew.under hb6).under hb7).cell 5, ((K5.out.drew.under hb6).under hb7).cell 6⟩) ?_
        clear hK K
        try simp only [List.getElem_toArray, List.getElem_cons_succ, List.getElem_cons_zero, Act.put, List.setIfInBounds_toArray, List.set_cons_zero, List.set_cons_succ]
        have K7 : Blk w7 wo.heap.size 42 (aR (nm.extract 0 m1) ep fl la sc (.slice ea n1 ec) (.slice oa n2 oc)) := (K5.out.drew.under hb6).under hb7
        have o1 : w7.ownsRow w5.heap.size 45 5 (.slice C1 m2 f1) m2 ((en.take m2).flatMap cellsN) := own_below ho6 hb7
        have o2 : w7.ownsRow w5.heap.size 47 2 (.slice C2 m3 f2) m3 ((op.take m3).flatMap cellsP) := own_low ho7 hb6.size
        have hd7 : Below wo.heap.size wo w7 := hd6.trans (hb7.mono hd6.size)
        have h57 : w5.heap.size ≤ w7.heap.size := Nat.le_trans hb6.size hb7.size
        have hr5 : wo.heap.size < w5.heap.size := K5.out.lt
        obtain ⟨x0, x1, x2, x3, x4, x5, x6⟩ := K7.seven
        have xf := K7.frozen
        have xl := K7.lt
        clear hd5 hd6 hb6 hb7 ho6 ho7 K5 HB5
        have K8 := K7.set_ 5 (.slice C1 m2 f1)
        have f5 := xf 5
        refine AnyTill.one (j := 17) (by kernel_rfl) rfl (fun K hK => ?_)
        go_simp
        refine hK.out _ _ (fun h => absurd h (by decide)) ?_
        clear hK K
        try simp only [List.getElem_toArray, List.getElem_cons_succ, List.getElem_cons_zero, Act.put, List.setIfInBounds_toArray, List.set_cons_zero, List.set_cons_succ]
        have o1' := own_farM o1 (a := ⟨wo.heap.size, 5, none⟩) (by simpa using hr5) (.slice C1 m2 f1)
        have o2' := own_farM o2 (a := ⟨wo.heap.size, 5, none⟩) (by simpa using hr5) (.slice C1 m2 f1)
        have hd8 := hd7.setCell (p := ⟨wo.heap.size, 5, none⟩) (Nat.le_refl _) (.slice C1 m2 f1)
        have h58 : w5.heap.size ≤ (w7.setCell ⟨wo.heap.size, 5, none⟩ (.slice C1 m2 f1)).heap.size := by simpa using h57
        clear o1 o2 hd7 h57 x0 x1 x2 x3 x4 x5 x6 xf xl K7 f5
        generalize w7.setCell ⟨wo.heap.size, 5, none⟩ (.slice C1 m2 f1) = w8 at *
        have K8 : Blk w8 wo.heap.size 42 (aR (nm.extract 0 m1) ep fl la sc (.slice C1 m2 f1) (.slice oa n2 oc)) := K8
        refine AnyTill.one (j := 18) (by kernel_rfl) rfl (fun K hK => ?_)
        go_simp
        refine hK.out _ _ (fun h => absurd h (by decide)) ?_
        clear hK K
        try simp only [List.getElem_toArray, List.getElem_cons_succ, List.getElem_cons_zero, Act.put, List.setIfInBounds_toArray, List.set_cons_zero, List.set_cons_succ]
        obtain ⟨x0, x1, x2, x3, x4, x5, x6⟩ := K8.seven
        have f6 := K8.frozen 6
        have xl := K8.lt
        have K9 := K8.set_ 6 (.slice C2 m3 f2)
        refine AnyTill.one (j := 19) (by kernel_rfl) rfl (fun K hK => ?_)
        go_simp
        refine hK.out _ _ (fun h => absurd h (by decide)) ?_
        clear hK K
        try simp only [List.getElem_toArray, List.getElem_cons_succ, List.getElem_cons_zero, Act.put, List.setIfInBounds_toArray, List.set_cons_zero, List.set_cons_succ]
        have o1 := own_farM o1' (a := ⟨wo.heap.size, 6, none⟩) (by simpa using hr5) (.slice C2 m3 f2)
        have o2 := own_farM o2' (a := ⟨wo.heap.size, 6, none⟩) (by simpa using hr5) (.slice C2 m3 f2)
        have hd9 := hd8.setCell (p := ⟨wo.heap.size, 6, none⟩) (Nat.le_refl _) (.slice C2 m3 f2)
        have h59 : w5.heap.size ≤ (w8.setCell ⟨wo.heap.size, 6, none⟩ (.slice C2 m3 f2)).heap.size := by simpa using h58
        clear o1' o2' hd8 h58 x0 x1 x2 x3 x4 x5 x6 xl K8 f6
        generalize w8.setCell ⟨wo.heap.size, 6, none⟩ (.slice C2 m3 f2) = w9 at *
        have K9 : Blk w9 wo.heap.size 42 (aR (nm.extract 0 m1) ep fl la sc (.slice C1 m2 f1) (.slice C2 m3 f2)) := K9
        refine AnyTill.done (by kernel_rfl) ?_ _
        refine NoPanic.normal ?_
        obtain ⟨x0, x1, x2, x3, x4, x5, x6⟩ := K9.seven
        have K9 := hid K9
        have O1 := hid o1
        have O2 := hid o2
        have HD9 := hid hd9
        clear o1 o2 hd9 x0 x1 x2 x3 x4 x6
        go_upto_region 9 with fail
        have HN9 := hid (And.intro hr5 h59)
        clear x5 HCE HCP
        go_loopw [47] (fun u47 wr => ∃ (k : Nat) (dn : List EnA), k ≤ m2 ∧ u47 = .int .i64 (k : Nat) ∧ Hid (dn.length = k ∧ wr.ownsRow w5.heap.size 45 5 (.slice C1 m2 f1) m2 ((dn ++ (en.take m2).drop k).flatMap cellsN) ∧ dn.map Prod.fst = ((en.take m2).take k).map (fun e => ownEn e.1) ∧ ∀ x ∈ dn, Reads wr 3 1 x.2.1 x.1.ps.length (x.1.ps.map (Value.int .i64)) ∧ x.1.ps.length ≤ x.2.2) ∧ Hid (w9.grownBy wr (Value.slice C1 m2 f1).ownBlock)) (fun u47 _ => m2 - (intOf u47).toNat)
        case atStart => exact ⟨0, [], Nat.zero_le _, rfl, hid ⟨rfl, by simpa using O1.out, rfl, fun x hx => absurd hx (by simp)⟩, hid ⟨rfl, rfl, rfl, Nat.le_refl _, fun _ _ _ => rfl⟩⟩
        case round =>
          obtain ⟨k, dn, hk, rfl, hq, hg⟩ := hrel
          have hbq : Below wo.heap.size wo wr := HD9.out.grown hg.out (by have := HN9.out; omega) (fun b hb => by have := O1.out.lt b hb; have := HN9.out; omega)
          have hsq := hg.out.size
          by_cases hkm : k < m2
          · have hm20 : m2 ≤ 20 := by have := HMM.out.2.2.1; omega
            obtain ⟨hdl, hown, hdm, hdr⟩ := hq.out
            have hml : (en.take m2).length = m2 := by rw [List.length_take]; have := HMM.out; omega
            obtain ⟨e, he⟩ : ∃ e, (en.take m2)[k]? = some e := ⟨_, List.getElem?_eq_getElem (by omega)⟩
            have hdp : (en.take m2).drop k = e :: (en.take m2).drop (k + 1) := by rw [List.drop_eq_getElem_cons (List.getElem?_eq_some_iff.1 he).1, (List.getElem?_eq_some_iff.1 he).2]
            rw [hdp] at hown
            obtain ⟨a2, x2, hC, hx2, _, c0, c1, c2, c3, c4⟩ := en_at (Reads.of_own hown) hkm
            rw [List.getElem?_append_right (by omega), hdl, Nat.sub_self, List.getElem?_cons_zero] at hx2
            injection hx2 with hx2
            subst hx2
            subst hC
            have hem : e ∈ en := List.mem_of_mem_take (List.mem_of_getElem? he)
            obtain ⟨⟨t4, hrp⟩, ⟨hp1, hp2⟩, _⟩ := HRX.out.ens e hem
            obtain ⟨⟨fs, ls, ct, by_, ps⟩, eA, eC⟩ := e
            obtain ⟨n4, hn4⟩ : ∃ n4, n4 = ps.length := ⟨_, rfl⟩
            obtain ⟨m4, hm4⟩ : ∃ m4, m4 = min n4 40 := ⟨_, rfl⟩
            simp only at c0 c1 c2 c3 c4 hrp hp1 hp2
            rw [← hn4] at c3 hrp hp1
            have hmin4 : ∀ w, (Builtin.min_ #[3, 3] 3 #[.int .i64 (n4 : Int), .int .i64 40]).run Try.prog w = .ok (.int .i64 (m4 : Nat)) w := min_at hm4 40 rfl
            have q4 : ((m4 : Nat) : Int) ≤ (eC : Nat) := by omega
            have q4n : m4 ≤ eC := by omega
            have hkI : (k : Int) < (m2 : Int) := by omega
            have hk0 : (0 : Int) ≤ (k : Int) := by omega
            have hn4m : n4 ≤ 9223372036854775807 := by unfold maxLen at hp2; omega
            have HCN := hid (fun W (hW : Below wo.heap.size wo W) => (show Calls Try.prog 38 #[.slice eA m4 eC] W fun e w' => ∃ C f, e = .returned (.slice C m4 f) ∧ w'.ownsRow W.heap.size 3 1 (.slice C m4 f) m4 ((ps.take m4).map (Value.int .i64)) ∧ Below W.heap.size W w' by
              have h2 := (hrp.below hW).take (k := m4) (by omega)
              rw [Nat.mul_one, ← List.map_take] at h2
              exact clone_n eA m4 eC _ W h2 (by omega)))
            obtain ⟨hput, hfz, hal, hab, haa, hgt⟩ := own_put hown (k := k) (r := 3) (by omega) (.slice none 0 0)
            have HAA := hid haa
            clear hput hfz hgt haa
            have KE := hid (Blk.new wr 45 (aE fs ls ct (.slice eA n4 eC) by_))
            have hneC : (Value.slice (some a2) m2 f1).ownBlock ≠ some wo.heap.size := by intro h; have := O1.out.lt _ h; have := HN9.out; omega
            have KQ := hid ((Blk.grown K9.out hg.out (fun e => hneC e.symm)).alloc (.cells (aE fs ls ct (.slice eA n4 eC) by_) 45))
            have hbe := hbq.alloc hbq.size (.cells (aE fs ls ct (.slice eA n4 eC) by_) 45)
            have hge : w9.grownBy (wr.alloc (.cells (aE fs ls ct (.slice eA n4 eC) by_) 45)) (Value.slice (some a2) m2 f1).ownBlock := grown_on hg.out ((Below.refl _ _).alloc (Nat.le_refl _) _)
            have HQQ := hid (And.intro (And.intro hdl (hown.alloc (.cells (aE fs ls ct (.slice eA n4 eC) by_) 45))) (And.intro hdm (And.intro (fun x hx => And.intro ((hdr x hx).1.alloc (.cells (aE fs ls ct (.slice eA n4 eC) by_) 45)) (hdr x hx).2) (And.intro hge (And.intro hbe (And.intro hn4 (And.intro hm4 he)))))))
            have hel : wr.heap.size < (wr.alloc (.cells (aE fs ls ct (.slice eA n4 eC) by_) 45)).heap.size := KE.out.lt
            have hwr5 := HN9.out.1
            clear hdl hown hdm hdr hml hdp hem hrp hp1 hp2 hn4 hm4 hneC hbe hge hq hg hbq
            go_upto_region 11 with fail
            clear c0 c1 c2 c3 c4
            generalize wr.alloc (.cells (aE fs ls ct (.slice eA n4 eC) by_) 45) = wE at *
            have hdE := HQQ.out.2.2.2.2.1.drew
            refine wp_region_noPanic ?_
            refine wp_region_held_drew (S := (fun W => W.cell? ⟨wo.heap.size, 5, none⟩ = some (.slice (some a2) m2 f1) ∧ W.cell? ⟨wr.heap.size, 3, none⟩ = some (.slice eA n4 eC))) (by kernel_rfl) ⟨KQ.out.drew.cell 5, KE.out.drew.cell 3⟩ (fun hHeld => ?_)
            refine wpAnyH_take (i := 0) (v := ?_) rfl (by kernel_rfl) (by kernel_rfl) (by kernel_rfl) (fun _ _ _ h => h) (Or.inl ⟨by rfl, ?_⟩) (by assumption) ?_
            rotate_left
            · intro W hW
              obtain ⟨y5, y3⟩ := hW
              go_simp
              try rfl
            simp only [List.getElem_toArray, List.getElem_cons_zero, Act.put, List.setIfInBounds_toArray, List.set_cons_zero, List.set_cons_succ]
            refine wpAnyH_take (i := 1) (v := ?_) rfl (by kernel_rfl) (by kernel_rfl) (by kernel_rfl) (fun _ _ _ h => h) (Or.inl ⟨by rfl, ?_⟩) (by assumption) ?_
            rotate_left
            · intro W hW
              obtain ⟨y5, y3⟩ := hW
              go_simp
              try rfl
            simp only [List.getElem_toArray, List.getElem_cons_succ, List.getElem_cons_zero, Act.put, List.setIfInBounds_toArray, List.set_cons_zero, List.set_cons_succ]
            refine wpAnyH_take (i := 2) (v := ?_) rfl (by kernel_rfl) (by kernel_rfl) (by kernel_rfl) (fun _ _ _ h => h) (Or.inl ⟨by rfl, ?_⟩) (by assumption) ?_
            rotate_left
            · intro W hW
              obtain ⟨y5, y3⟩ := hW
              go_simp
              try rfl
            simp only [List.getElem_toArray, List.getElem_cons_succ, List.getElem_cons_zero, Act.put, List.setIfInBounds_toArray, List.set_cons_zero, List.set_cons_succ]
            refine wpAnyH_take (i := 3) (v := ?_) rfl (by kernel_rfl) (by kernel_rfl) (by kernel_rfl) (fun _ _ _ h => h) (Or.inl ⟨by rfl, ?_⟩) (by assumption) ?_
            rotate_left
            · intro W hW
              obtain ⟨y5, y3⟩ := hW
              go_simp
              try rfl
            simp only [List.getElem_toArray, List.getElem_cons_succ, List.getElem_cons_zero, Act.put, List.setIfInBounds_toArray, List.set_cons_zero, List.set_cons_succ]
            refine wpAnyH_take (i := 4) (v := ?_) rfl (by kernel_rfl) (by kernel_rfl) (by kernel_rfl) (fun _ _ _ h => h) (Or.inl ⟨by rfl, ?_⟩) (by assumption) ?_
            rotate_left
            · intro W hW
              obtain ⟨y5, y3⟩ := hW
              go_simp
              try rfl
            simp only [List.getElem_toArray, List.getElem_cons_succ, List.getElem_cons_zero, Act.put, List.setIfInBounds_toArray, List.set_cons_zero, List.set_cons_succ]
            refine wpAnyH_take (i := 5) (v := ?_) rfl (by kernel_rfl) (by kernel_rfl) (by kernel_rfl) (fun _ _ _ h => h) (Or.inl ⟨by rfl, ?_⟩) (by assumption) ?_
            rotate_left
            · intro W hW
              obtain ⟨y5, y3⟩ := hW
              go_simp
              try rfl
            simp only [List.getElem_toArray, List.getElem_cons_succ, List.getElem_cons_zero, Act.put, List.setIfInBounds_toArray, List.set_cons_zero, List.set_cons_succ]
            refine wpAnyH_take (i := 6) (v := ?_) rfl (by kernel_rfl) (by kernel_rfl) (by kernel_rfl) (fun _ _ _ h => h) (Or.inl ⟨by rfl, ?_⟩) (by assumption) ?_
            rotate_left
            · intro W hW
              obtain ⟨y5, y3⟩ := hW
              go_simp
              try rfl
            simp only [List.getElem_toArray, List.getElem_cons_succ, List.getElem_cons_zero, Act.put, List.setIfInBounds_toArray, List.set_cons_zero, List.set_cons_succ]
            refine wpAnyH_take (i := 7) (v := ?_) rfl (by kernel_rfl) (by kernel_rfl) (by kernel_rfl) (fun _ _ _ h => h) (Or.inl ⟨by rfl, ?_⟩) (by assumption) ?_
            rotate_left
            · intro W hW
              obtain ⟨y5, y3⟩ := hW
              go_simp
              try rfl
            simp only [List.getElem_toArray, List.getElem_cons_succ, List.getElem_cons_zero, Act.put, List.setIfInBounds_toArray, List.set_cons_zero, List.set_cons_succ]
            refine wpAnyH_take (i := 8) (v := ?_) rfl (by kernel_rfl) (by kernel_rfl) (by kernel_rfl) (fun _ _ _ h => h) (Or.inl ⟨by rfl, ?_⟩) (by assumption) ?_
            rotate_left
            · intro W hW
              obtain ⟨y5, y3⟩ := hW
              go_simp
              try rfl
            simp only [List.getElem_toArray, List.getElem_cons_succ, List.getElem_cons_zero, Act.put, List.setIfInBounds_toArray, List.set_cons_zero, List.set_cons_succ]
            refine wpAnyH_take (i := 9) (v := ?_) rfl (by kernel_rfl) (by kernel_rfl) (by kernel_rfl) (fun _ _ _ h => h) (Or.inl ⟨by rfl, ?_⟩) (by assumption) ?_
            rotate_left
            · intro W hW
              obtain ⟨y5, y3⟩ := hW
              go_simp
              try rfl
            simp only [List.getElem_toArray, List.getElem_cons_succ, List.getElem_cons_zero, Act.put, List.setIfInBounds_toArray, List.set_cons_zero, List.set_cons_succ]
            refine wpAnyH_ready (rs := [10]) (by kernel_rfl) (by simp) ?_
            refine AllReadyH.cons rfl (fun K hK => ?_) AllReadyH.nil
            go_simp
            refine (HCN.out _ hdE).mono ?_
            rintro d w10 ⟨Cp, fp, rfl, hop, hb10⟩
            refine hK.out _ _ ⟨(KQ.out.drew.under hb10).cell 5, (KE.out.drew.under hb10).cell 3⟩ (fun hHeld => ?_)
            clear hK K
            try simp only [List.getElem_toArray, List.getElem_cons_succ, List.getElem_cons_zero, Act.put, List.setIfInBounds_toArray, List.set_cons_zero, List.set_cons_succ]
            refine wpAnyH_take (i := 11) (v := ?_) rfl (by kernel_rfl) (by kernel_rfl) (by kernel_rfl) (fun _ _ _ h => h) (Or.inl ⟨by rfl, ?_⟩) (by assumption) ?_
            rotate_left
            · intro W hW
              go_simp
              try rfl
            simp only [List.getElem_toArray, List.getElem_cons_succ, List.getElem_cons_zero, Act.put, List.setIfInBounds_toArray, List.set_cons_zero, List.set_cons_succ]
            refine wpAnyH_take (i := 12) (v := ?_) rfl (by kernel_rfl) (by kernel_rfl) (by kernel_rfl) (fun _ _ _ h => h) (Or.inl ⟨by rfl, ?_⟩) (by assumption) ?_
            rotate_left
            · intro W hW
              go_simp
              try rfl
            simp only [List.getElem_toArray, List.getElem_cons_succ, List.getElem_cons_zero, Act.put, List.setIfInBounds_toArray, List.set_cons_zero, List.set_cons_succ]
            have own10 := own_below (w := wE.drew) HQQ.out.1.2 hb10
            obtain ⟨hput, hfz, hal2, hu1, hu2, hgt⟩ := own_put own10 (k := k) (r := 3) (by omega) (.slice Cp m4 fp)
            clear hu1 hu2
            have hcl := hgt (.slice eA n4 eC) (by
              have := get_here dn ((en.take m2).drop (k + 1)) (⟨fs, ls, ct, by_, ps⟩, eA, eC)
              rw [HQQ.out.1.1, ← HQQ.out.2.2.2.2.2.1] at this
              exact this)
            have hal3 : (a2.add (k * 5)).block < w10.heap.size := by rw [HAA.out]; exact hal2
            have KQ10 := KQ.out.drew.under hb10
            have KE10 := KE.out.drew.under hb10
            have hne1 : wo.heap.size ≠ (a2.add (k * 5)).block := by rw [HAA.out]; omega
            have hne2 : wr.heap.size ≠ (a2.add (k * 5)).block := by rw [HAA.out]; omega
            have KQ11 := KQ10.far (p := ⟨(a2.add (k * 5)).block, (a2.add (k * 5)).off + 3, none⟩) hne1 (.slice Cp m4 fp)
            have KE11 := KE10.far (p := ⟨(a2.add (k * 5)).block, (a2.add (k * 5)).off + 3, none⟩) hne2 (.slice Cp m4 fp)
            clear hgt
            refine wpAnyH_ready (rs := [13]) (by kernel_rfl) (by simp) ?_
            refine AllReadyH.cons rfl (fun K hK => ?_) AllReadyH.nil
            go_simp
            refine hK.out _ _ ⟨KQ11.cell 5, KE11.cell 3⟩ (fun hHeld => ?_)
            clear hK K
            try simp only [List.getElem_toArray, List.getElem_cons_succ, List.getElem_cons_zero, Act.put, List.setIfInBounds_toArray, List.set_cons_zero, List.set_cons_succ]
            refine wpAnyH_done (by kernel_rfl) ?_ _
            refine NoPanic.normal ?_
            have HP := hid hput
            have HOP := hid hop
            have HB10 := hid hb10
            clear hHeld hput hfz hal2 hcl hal3 KQ10 KE10 KQ11 KE11 own10 hop hb10 KQ KE hmin4 hdE
            obtain ⟨w11, hw11⟩ : ∃ w11, w11 = w10.setCell ⟨(a2.add (k * 5)).block, (a2.add (k * 5)).off + 3, none⟩ (.slice Cp m4 fp) := ⟨_, rfl⟩
            rw [← hw11] at HP ⊢
            have hdl := HQQ.out.1.1
            have hty : Typed w10 (a2.add (k * 5)).block 45 := by rw [HAA.out]; exact own_typedE (own_below (w := wE.drew) HQQ.out.1.2 HB10.out)
            have hm4l : m4 = (ps.take 40).length := by rw [List.length_take, HQQ.out.2.2.2.2.2.2.1, HQQ.out.2.2.2.2.2.1]; omega
            have hps : ps.take m4 = ps.take 40 := by rw [HQQ.out.2.2.2.2.2.2.1, HQQ.out.2.2.2.2.2.1]; exact take_min' ps 40
            have hO := HP.out
            rw [← hdl, set_here dn ((en.take m2).drop (dn.length + 1)) (⟨fs, ls, ct, by_, ps⟩, eA, eC) (ownEn ⟨fs, ls, ct, by_, ps⟩, Cp, fp) (.slice Cp m4 fp) (by unfold ownEn cellsN; simp only [List.set_cons_succ, List.set_cons_zero]; rw [← hm4l])] at hO
            have HN := hid (show (dn ++ [(ownEn ⟨fs, ls, ct, by_, ps⟩, Cp, fp)]).length = k + 1 ∧ w11.ownsRow w5.heap.size 45 5 (.slice (some a2) m2 f1) m2 (((dn ++ [(ownEn ⟨fs, ls, ct, by_, ps⟩, Cp, fp)]) ++ (en.take m2).drop (k + 1)).flatMap cellsN) ∧ (dn ++ [(ownEn ⟨fs, ls, ct, by_, ps⟩, Cp, fp)]).map Prod.fst = ((en.take m2).take (k + 1)).map (fun e => ownEn e.1) ∧ ∀ x ∈ dn ++ [(ownEn ⟨fs, ls, ct, by_, ps⟩, Cp, fp)], Reads w11 3 1 x.2.1 x.1.ps.length (x.1.ps.map (Value.int .i64)) ∧ x.1.ps.length ≤ x.2.2 from by
              refine ⟨by simp [hdl], by rw [← hdl]; exact hO, ?_, ?_⟩
              · have he := HQQ.out.2.2.2.2.2.2.2
                rw [List.map_append, HQQ.out.2.1, List.take_succ_eq_append_getElem (List.getElem?_eq_some_iff.1 he).1, List.map_append, (List.getElem?_eq_some_iff.1 he).2]
                rfl
              · intro x hx
                rw [hw11]
                rcases List.mem_append.1 hx with hx | hx
                · exact ⟨(((HQQ.out.2.2.1 x hx).1.drew).below HB10.out).setCell (p := ⟨(a2.add (k * 5)).block, (a2.add (k * 5)).off + 3, none⟩) hty (by decide) _, (HQQ.out.2.2.1 x hx).2⟩
                · obtain rfl := List.mem_singleton.1 hx
                  have h := Reads.of_own HOP.out
                  rw [hps] at h
                  show Reads _ _ 1 Cp (ps.take 40).length _ ∧ (ps.take 40).length ≤ fp
                  rw [← hm4l]
                  obtain ⟨_, _, hv1, hv2, _⟩ := own_form HOP.out
                  injection hv1 with _ _ hv3
                  refine ⟨?_, by omega⟩
                  exact h.setCell (p := ⟨(a2.add (k * 5)).block, (a2.add (k * 5)).off + 3, none⟩) hty (by decide) _)
            have HG := hid (show w9.grownBy w11 (Value.slice (some a2) m2 f1).ownBlock by
              rw [hw11]
              exact grown_set (grown_on (grown_on HQQ.out.2.2.2.1 (Below.refl _ _).drew) HB10.out) (by show some a2.block = some (a2.add (k * 5)).block; rw [HAA.out]) _)
            clear hw11 hdl hty hm4l hps hO HP HOP HB10 HQQ HAA
            generalize dn ++ [(ownEn ⟨fs, ls, ct, by_, ps⟩, Cp, fp)] = dn2 at *
            go_wp2_with fail
            go_roundw
            case rel => exact ⟨k + 1, dn2, by omega, by go_num, HN, HG⟩
            case measure => simp [intOf]; omega
          · obtain rfl : k = m2 := by omega
            obtain ⟨hdl, hown, hdm, hdr⟩ := hq.out
            have hdm2 : dn.map Prod.fst = (en.take k).map (fun e => ownEn e.1) := by rw [hdm, List.take_take, Nat.min_self]
            rw [show (en.take k).drop k = [] from List.drop_eq_nil_of_le (by rw [List.length_take]; omega), List.append_nil] at hown
            have hopl : (op.take m3).length = m3 := by rw [List.length_take]; have := HMM.out; omega
            obtain ⟨x, hx⟩ : ∃ x : RoA, x = ⟨nm.extract 0 m1, ep, fl, la, sc, dn, C1, f1, op.take m3, C2, f2⟩ := ⟨_, rfl⟩
            have hne5 : (Value.slice C1 k f1).ownBlock ≠ some wo.heap.size := by intro h; have := O1.out.lt _ h; have := HN9.out; omega
            have KR := Blk.grown K9.out hg.out (fun e => hne5 e.symm)
            have K1' := HST.out.1.below hbq (by have := HST.out.1.lt; omega)
            have K2' := HST.out.2.1.below hbq (by have := HST.out.2.1.lt; omega)
            have hns := own_below HST.out.2.2.1 hbq
            have hrf : ∀ y ∈ ns, RoFr wr y := fun y hy => (HST.out.2.2.2 y hy).below hbq
            have O2' := O2.out.kept hg.out (own_ne3 O2.out O1.out (by decide))
            have h20 : k ≤ 20 := by have := HMM.out.2.2.1; omega
            have h40 : m3 ≤ 40 := by have := HMM.out.2.2.2; omega
            have HXF := hid (show RoFr wr x by
              rw [hx]
              refine ⟨?_, fun e he => (hdr e he).1, ?_, ?_, ?_, ?_, ?_, ?_, fun e he => (hdr e he).2⟩
              · show Reads wr _ 5 C1 dn.length _
                rw [hdl]; exact Reads.of_own hown
              · show Reads wr _ 2 C2 (op.take m3).length _
                rw [hopl]; exact Reads.of_own O2'
              · intro e he
                have h1 : e.1 ∈ dn.map Prod.fst := List.mem_map_of_mem he
                rw [hdm2] at h1
                obtain ⟨y, _, h2⟩ := List.mem_map.1 h1
                rw [← h2]
                show (y.1.ps.take 40).length ≤ 256
                rw [List.length_take]; omega
              · show dn.length ≤ 256
                omega
              · show (op.take m3).length ≤ 256
                omega
              · show (nm.extract 0 m1).size ≤ 255
                have := HMM.out.2.1
                rw [ByteArray.size_extract]; omega
              · intro e he
                have h1 : e.1 ∈ dn.map Prod.fst := List.mem_map_of_mem he
                rw [hdm2] at h1
                obtain ⟨y, hy, h2⟩ := List.mem_map.1 h1
                rw [← h2]
                exact (HRX.out.ens y (List.mem_of_mem_take hy)).2.2)
            have HXD := hid (show x.d = ownRo (RoA.d ⟨nm, ep, fl, la, sc, en, ea, ec, op, oa, oc⟩) by
              rw [hx]
              unfold RoA.d ownRo
              simp only
              rw [hdm2, ← HMM.out.2.1, HMM.out.2.2.1, HMM.out.1.1, take_min', HMM.out.2.2.2, HMM.out.1.2, take_min', ← List.map_take, List.map_map]
              rfl)
            have hcx : aR (nm.extract 0 m1) ep fl la sc (.slice C1 k f1) (.slice C2 m3 f2) = (cellsR x).toArray := by
              rw [hx]
              show _ = (cellsR ⟨nm.extract 0 m1, ep, fl, la, sc, dn, C1, f1, op.take m3, C2, f2⟩).toArray
              unfold cellsR
              rw [hdl, hopl]
            obtain ⟨a0, a1, a2, a3, a4, a5, a6⟩ := KR.seven
            have c2 : wr.cell? ⟨w.heap.size + 1 + 1, 0, none⟩ = some (.slice C ns.length f) := K2'.cell 0
            have HW12 := hid (show Below wr.heap.size wr (wr.alloc (.cells (cellsR x).toArray 42)) from (Below.refl _ _).alloc (Nat.le_refl _) _)
            have hnw := new_reads wr 42 7 (cellsR x) rfl
            have hnA := hns.alloc (.cells (cellsR x).toArray 42)
            have HKK := hid (And.intro (And.intro (K1'.alloc (.cells (cellsR x).toArray 42)) (K2'.alloc (.cells (cellsR x).toArray 42))) (And.intro (fun y hy => (hrf y hy).below HW12.out) (HXF.out.below HW12.out)))
            have hsz : w3.heap.size ≤ wr.heap.size + 1 := by omega
            have hnl : ns.length ≤ 9 := by
              have := congrArg List.length HBN.out.2
              unfold ownL at this
              rw [List.length_map, List.length_map, List.length_take] at this
              omega
            have HBW := hid hbq
            rw [← hcx] at hnw hnA HKK HW12
            clear hcx hdl hown hdm hdr hdm2 hopl hne5 KR K1' K2' hns hrf O2' hq hg hbq hx HXF HRX HMM
            go_wp2_with (at_builtin; refine wpList_append_any _ rfl (.tmp 67) (.tmp 69) 22 rfl w3.heap.size 42 i0 (.agg zRow) 7 96 Try.underlying22 HI.out.1 HI.out.2.1 HI.out.2.2.1 HI.out.2.2.2 rfl (by decide) _ ns.length (ns.flatMap cellsR) rfl hnA (some ⟨wr.heap.size, 0, none⟩) 1 1 (cellsR x) rfl hnw (cellsR_one x) (by simp only [maxLen]; omega) (by omega) (by simp; omega) ?_; intro v' w12 hown' hgr' hv'; obtain ⟨C9, f9, hvf, _, _⟩ := own_form hown'; subst hvf; clear hv'; replace hgr' : (wr.alloc (.cells (aR (nm.extract 0 m1) ep fl la sc (.slice C1 k f1) (.slice C2 m3 f2)) 42)).grownBy w12 (Value.slice C ns.length f).ownBlock := hgr'; have K2n := Blk.grown HKK.out.1.2 hgr' (by intro e; have := hnA.lt _ e.symm; omega); have s2 : w12.cell? ⟨w.heap.size + 1 + 1, 0, none⟩ = some (.slice C ns.length f) := K2n.cell 0; have sf : w12.frozen? ⟨w.heap.size + 1 + 1, 0, none⟩ = false := K2n.frozen 0; have sl := K2n.lt)
            have K1n := Blk.grown HKK.out.1.1 hgr' (by intro e; have := hnA.lt _ e.symm; omega)
            have hnx : (ns ++ [x]).length = ns.length + 1 := by simp
            have hcl : ns.flatMap cellsR ++ cellsR x = (ns ++ [x]).flatMap cellsR := by simp
            rw [hcl, ← hnx] at hown'
            have HN := hid (show Blk (w12.setCell ⟨w.heap.size + 1 + 1, 0, none⟩ (.slice C9 (ns ++ [x]).length f9)) (w.heap.size + 1) 24 #[.slice none 0 0] ∧ Blk (w12.setCell ⟨w.heap.size + 1 + 1, 0, none⟩ (.slice C9 (ns ++ [x]).length f9)) (w.heap.size + 1 + 1) 24 #[.slice C9 (ns ++ [x]).length f9] ∧ (w12.setCell ⟨w.heap.size + 1 + 1, 0, none⟩ (.slice C9 (ns ++ [x]).length f9)).ownsRow w3.heap.size 42 7 (.slice C9 (ns ++ [x]).length f9) (ns ++ [x]).length ((ns ++ [x]).flatMap cellsR) ∧ (∀ y ∈ ns ++ [x], RoFr (w12.setCell ⟨w.heap.size + 1 + 1, 0, none⟩ (.slice C9 (ns ++ [x]).length f9)) y) from by
              refine ⟨K1n.far (by simp) _, K2n.set_ 0 _, own_farM hown' (a := ⟨w.heap.size + 1 + 1, 0, none⟩) (by simp; omega) _, fun y hy => RoFr.set ?_ K2n (by decide) _⟩
              rcases List.mem_append.1 hy with hy | hy
              · exact (HKK.out.2.1 y hy).grown hnA hgr'
              · obtain rfl := List.mem_singleton.1 hy
                exact HKK.out.2.2.grown hnA hgr')
            have HB2 := hid (show (Below w.heap.size w (w12.setCell ⟨w.heap.size + 1 + 1, 0, none⟩ (.slice C9 (ns ++ [x]).length f9)) ∧ w3.heap.size ≤ (w12.setCell ⟨w.heap.size + 1 + 1, 0, none⟩ (.slice C9 (ns ++ [x]).length f9)).heap.size) ∧ (ns ++ [x]).map RoA.d = ownL (rows.map RoA.d) (i + 1) from by
              have h1 : Below w.heap.size w wo := HBN.out.1.1
              have h2 := h1.trans (HBW.out.mono h1.size)
              have h3 := h2.trans (HW12.out.mono h2.size)
              have h4 := h3.grown hgr' (by have := h3.size; omega) (fun b hb => by have := hnA.lt b hb; omega)
              refine ⟨⟨h4.setCell (p := ⟨w.heap.size + 1 + 1, 0, none⟩) (by simp; omega) _, ?_⟩, ?_⟩
              · have := hgr'.size
                simp at this
                simp
                omega
              · rw [List.map_append, HBN.out.2, List.map_singleton, HXD.out]
                exact (own_succ HXE.out).symm)
            rw [← hnx]
            clear K1n K2n hown' hgr' hnx hcl HKK HXD HXE HBW HW12 HBN HST s2 sf sl
            generalize ns ++ [x] = ns2 at *
            go_wp2_with fail
            go_roundw
            case rel => exact ⟨i + 1, ns2, C9, f9, by omega, by omega, by go_num, HN, HB2⟩
            case measure => simp [intOf]; omega
    · obtain rfl : i = n := by omega
      have HF := hid (own_fin hst.out.1 hst.out.2.2.1 hst.out.2.2.2 hbn.out.1.1 hs3 (hbn.out.2.trans (own_all (by rw [List.length_map, HLN.out]) hi9)))
      have k2 : wo.cell? ⟨w.heap.size + 1 + 1, 0, none⟩ = some (.slice C ns.length f) := hst.out.2.1.cell 0
      have k1 : wo.cell? ⟨w.heap.size + 1, 0, none⟩ = some (.slice none 0 0) := hst.out.1.cell 0
      have kf : wo.frozen? ⟨w.heap.size + 1, 0, none⟩ = false := hst.out.1.frozen 0
      have kl : w.heap.size + 1 < wo.heap.size := hst.out.1.lt
      have kd := (hst.out.1.set_ 0 (.slice C ns.length f)).cell 0
      clear hst hbn hlt
      go_wp2_with fail
      refine bodyPost_ret (v := .agg #[.slice C ns.length f]) ?_ rfl HF.out
      simp [results, Try.results11, go_sem, kd]
end Go.Proofs.Ytgdnpmjmkcccoaa
