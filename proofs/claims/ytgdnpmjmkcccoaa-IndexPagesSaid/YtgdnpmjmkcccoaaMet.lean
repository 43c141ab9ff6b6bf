/- A map that counts whole numbers (met[p]++): what it holds is how often each was met. -/
import Derived.Test.YtgdnpmjmkcccoaaMap
namespace Go.Proofs.Ytgdnpmjmkcccoaa
open Go.RowKit
set_option linter.unusedVariables false
def kvE (p : Int × Int) : Value × Value := (.int .i64 p.1, .int .i64 p.2)
def KV (l : List MapEntry) (M : List (Int × Int)) : Prop := l.map (fun e => (e.key, e.val)) = M.map kvE
theorem find_none {k : Int} : ∀ (l : List MapEntry) (M : List (Int × Int)) (i : Nat), KV l M → (∀ p ∈ M, p.1 ≠ k) → Instr.findNow (.int .i64) (.int .i64 k) l i = some none
  | [], _, _, _, _ => rfl
  | e :: l, [], i, h, _ => by unfold KV at h; simp at h
  | e :: l, p :: M, i, h, hk => by
    unfold KV at h
    rw [List.map_cons, List.map_cons] at h
    injection h with h1 h2
    have hp := hk p List.mem_cons_self
    unfold kvE at h1
    injection h1 with h1 h3
    unfold Instr.findNow
    have hs : Instr.sameNow (.int .i64) (.int .i64 k) e.key = some false := by
      rw [h1]
      simp [Instr.sameNow]
      exact fun h => hp h.symm
    rw [hs]
    exact find_none l M (i + 1) h2 (fun q hq => hk q (List.mem_cons_of_mem _ hq))
theorem find_some {k v : Int} : ∀ (l : List MapEntry) (pre post : List (Int × Int)) (i : Nat), KV l (pre ++ (k, v) :: post) → (∀ p ∈ pre, p.1 ≠ k) → Instr.findNow (.int .i64) (.int .i64 k) l i = some (some (i + pre.length, .int .i64 v))
  | [], pre, post, i, h, _ => by unfold KV at h; simp at h
  | e :: l, [], post, i, h, _ => by
    unfold KV at h
    rw [List.map_cons, List.nil_append, List.map_cons] at h
    injection h with h1 h2
    unfold kvE at h1
    injection h1 with h1 h3
    unfold Instr.findNow
    have hs : Instr.sameNow (.int .i64) (.int .i64 k) e.key = some true := by
      rw [h1]
      simp [Instr.sameNow]
    rw [hs]
    simp only at h3
    rw [h3]
    rfl
  | e :: l, p :: pre, post, i, h, hk => by
    unfold KV at h
    rw [List.map_cons, List.cons_append, List.map_cons] at h
    injection h with h1 h2
    have hp := hk p List.mem_cons_self
    unfold kvE at h1
    injection h1 with h1 h3
    unfold Instr.findNow
    have hs : Instr.sameNow (.int .i64) (.int .i64 k) e.key = some false := by
      rw [h1]
      simp [Instr.sameNow]
      exact fun h => hp h.symm
    rw [hs]
    have := find_some l pre post (i + 1) h2 (fun q hq => hk q (List.mem_cons_of_mem _ hq))
    rw [this, List.length_cons]
    have e1 : i + 1 + pre.length = i + (pre.length + 1) := by omega
    rw [e1]
/-- the block r counts what was met -/
def MetAt (w : World) (r : Nat) (L : List Int) : Prop :=
  ∃ es clock M, w.heap[r]? = some (.map es clock) ∧ KV es.toList M ∧ (M.map Prod.fst).Nodup ∧ (∀ k, k ∈ M.map Prod.fst ↔ k ∈ L) ∧ ∀ p ∈ M, p.2 = (L.count p.1 : Nat)
theorem MetAt.lt {w : World} {r : Nat} {L : List Int} (h : MetAt w r L) : r < w.heap.size := by
  obtain ⟨_, _, _, h, _⟩ := h
  exact (Array.getElem?_eq_some_iff.1 h).1
theorem MetAt.keep {w w' : World} {r : Nat} {L : List Int} (h : MetAt w r L) (hk : w'.heap[r]? = w.heap[r]?) : MetAt w' r L := by
  obtain ⟨es, clock, M, h1, h2⟩ := h
  exact ⟨es, clock, M, hk.trans h1, h2⟩
theorem split_key {M : List (Int × Int)} {k : Int} (h : k ∈ M.map Prod.fst) (hn : (M.map Prod.fst).Nodup) : ∃ pre v post, M = pre ++ (k, v) :: post ∧ (∀ p ∈ pre, p.1 ≠ k) ∧ (∀ p ∈ post, p.1 ≠ k) := by
  obtain ⟨p, hp, rfl⟩ := List.mem_map.1 h
  obtain ⟨pre, post, rfl⟩ := List.append_of_mem hp
  rw [List.map_append, List.map_cons, List.nodup_append] at hn
  obtain ⟨_, h2, h3⟩ := hn
  rw [List.nodup_cons] at h2
  refine ⟨pre, p.2, post, rfl, ?_, ?_⟩
  · intro q hq
    exact h3 q.1 (List.mem_map_of_mem hq) p.1 List.mem_cons_self
  · intro q hq e
    exact h2.1 (e ▸ List.mem_map_of_mem hq)
section
variable {P : Program} {mty kt et : TypeId} {w : World} {r : Nat} {L : List Int} {k : Int}
theorem met_get (h : MetAt w r L) (hm : P.underlying mty = some (.map kt et)) (hk : P.underlying kt = some (.int .i64)) (hz : (zeroValue et).run P w = .ok (.int .i64 0) w) :
    (Instr.lookup mty (.map (some r)) (.int .i64 k) false).run P w = .ok (.int .i64 (L.count k : Nat)) w := by
  obtain ⟨es, clock, M, h1, h2, h3, h4, h5⟩ := h
  by_cases hkL : k ∈ L
  · obtain ⟨pre, v, post, rfl, h6, _⟩ := split_key ((h4 k).2 hkL) h3
    have hv := h5 (k, v) (by simp)
    have := lookup_hit (P := P) w mty kt et .i64 r clock (0 + pre.length) es k (.int .i64 v) false hm hk h1 (find_some _ _ _ 0 h2 h6)
    rw [this]
    simp only at hv
    rw [hv]
    rfl
  · have := lookup_miss (P := P) w mty kt et .i64 r clock es k (.int .i64 0) false hm hk h1 hz (find_none _ M 0 h2 (fun p hp e => hkL ((h4 k).1 (e ▸ List.mem_map_of_mem hp))))
    rw [this, List.count_eq_zero_of_not_mem hkL]
    rfl
theorem met_put (h : MetAt w r L) (hm : P.underlying mty = some (.map kt et)) (hk : P.underlying kt = some (.int .i64)) :
    ∃ w', (Instr.mapUpdate mty (.map (some r)) (.int .i64 k) (.int .i64 ((L.count k : Nat) + 1 : Int))).run P w = .ok () w' ∧ MetAt w' r (k :: L) ∧ But r w w' := by
  obtain ⟨es, clock, M, h1, h2, h3, h4, h5⟩ := h
  by_cases hkL : k ∈ L
  · obtain ⟨pre, v, post, rfl, h6, h7⟩ := split_key ((h4 k).2 hkL) h3
    have hv := h5 (k, v) (by simp)
    have hlen : pre.length < es.toList.length := by
      have := congrArg List.length h2
      simp only [List.length_map, List.length_append, List.length_cons] at this
      omega
    have hi : (es[0 + pre.length]?).map (·.key) = some (.int .i64 k) := by
      rw [Nat.zero_add]
      have h8 := congrArg (fun l : List (Value × Value) => (l[pre.length]?).map Prod.fst) h2
      simp only [List.getElem?_map] at h8
      rw [List.getElem?_append_right (Nat.le_refl _), Nat.sub_self] at h8
      simp only [List.getElem?_cons_zero, Option.map_some, kvE] at h8
      rw [Array.getElem?_toList] at h8
      rw [← h8]
      cases es[pre.length]? <;> rfl
    obtain ⟨w', g1, g2, g3⟩ := mapUpdate_old (P := P) w mty kt et .i64 r clock (0 + pre.length) es k (.int .i64 ((L.count k : Nat) + 1 : Int)) (.int .i64 v) hm hk h1 (find_some _ _ _ 0 h2 h6) hi
    refine ⟨w', g1, ⟨_, _, pre ++ (k, ((L.count k : Nat) + 1 : Int)) :: post, g2, ?_, by simpa using h3, ?_, ?_⟩, g3⟩
    · unfold KV at h2 ⊢
      rw [Array.toList_modify, Nat.zero_add]
      apply List.ext_getElem?
      intro j
      have h8 := congrArg (fun l : List (Value × Value) => l[j]?) h2
      simp only [List.getElem?_map, List.getElem?_modify] at h8 ⊢
      by_cases hj : pre.length = j
      · subst hj
        rw [List.getElem?_append_right (Nat.le_refl _), Nat.sub_self] at h8 ⊢
        simp only [List.getElem?_cons_zero, Option.map_some] at h8 ⊢
        cases hh : es.toList[pre.length]? with
        | none => rw [hh] at h8; cases h8
        | some e => simp [kvE]
      · have hX : ∀ X : Option MapEntry, ((fun a : MapEntry => if pre.length = j then { key := Value.int IntKind.i64 k, val := Value.int IntKind.i64 ((L.count k : Nat) + 1 : Int), born := a.born } else a) <$> X) = X := by
          intro X
          cases X with
          | none => rfl
          | some a => simp [hj]
        rw [hX]
        rw [show (es.toList[j]?).map (fun a => (a.key, a.val)) = _ from h8]
        rcases Nat.lt_or_ge j pre.length with h9 | h9
        · rw [List.getElem?_append_left h9, List.getElem?_append_left h9]
        · rw [List.getElem?_append_right h9, List.getElem?_append_right h9]
          obtain ⟨d, hd⟩ : ∃ d, j - pre.length = d + 1 := ⟨j - pre.length - 1, by omega⟩
          rw [hd, List.getElem?_cons_succ, List.getElem?_cons_succ]
    · intro x
      have := h4 x
      simp only [List.map_append, List.map_cons, List.mem_append, List.mem_cons] at this ⊢
      rw [this]
      constructor
      · exact .inr
      · rintro (rfl | h)
        · exact hkL
        · exact h
    · intro p hp
      rcases List.mem_append.1 hp with hp | hp
      · rw [h5 p (by simp [hp]), List.count_cons_of_ne (fun e => h6 p hp e.symm)]
      · rcases List.mem_cons.1 hp with rfl | hp
        · simp
        · rw [h5 p (by simp [hp]), List.count_cons_of_ne (fun e => h7 p hp e.symm)]
  · have hnk : ∀ p ∈ M, p.1 ≠ k := fun p hp e => hkL ((h4 k).1 (e ▸ List.mem_map_of_mem hp))
    rw [List.count_eq_zero_of_not_mem hkL]
    obtain ⟨w', g1, g2, g3⟩ := mapUpdate_new (P := P) w mty kt et .i64 r clock es k (.int .i64 (((0 : Nat) : Int) + 1)) hm hk h1 (find_none _ M 0 h2 hnk)
    refine ⟨w', g1, ⟨_, _, M ++ [(k, ((0 : Nat) : Int) + 1)], g2, ?_, ?_, ?_, ?_⟩, g3⟩
    · unfold KV at h2 ⊢
      rw [Array.toList_push, List.map_append, List.map_append, h2]
      rfl
    · rw [List.map_append, List.nodup_append]
      refine ⟨h3, by simp, ?_⟩
      intro a ha b hb e
      simp at hb
      subst hb
      subst e
      exact hkL ((h4 a).1 ha)
    · intro x
      have := h4 x
      simp only [List.map_append, List.map_cons, List.map_nil, List.mem_append, List.mem_cons, List.not_mem_nil, or_false] at this ⊢
      rw [this]
      exact Or.comm
    · intro p hp
      rcases List.mem_append.1 hp with hp | hp
      · rw [h5 p hp, List.count_cons_of_ne (fun e => hnk p hp e.symm)]
      · obtain rfl := List.mem_singleton.1 hp
        simp [List.count_eq_zero_of_not_mem hkL]
end
end Go.Proofs.Ytgdnpmjmkcccoaa
