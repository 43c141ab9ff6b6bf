/- Rows of the call's own that are written over, byte by byte. -/
import Derived.Test.YtcdkibpfgnmmfaaVarS
import Derived.Test.YtcdkibpfgnmmfaaVarT
namespace Go.Proofs.Ytcdkibpfgnmmfaa
open Go.RowKit Go.Shelf VB
set_option linter.unusedVariables false
theorem below_drewN {n : Nat} {w w' : World} (h : Below n w w') (q : Nat) : Below n w (w'.drewN q) := ⟨h.os, h.tape, h.output, h.size, h.block⟩
/-- a slice of n bytes, whatever they are, in a block of its own; nil where there are none -/
def Bytes (w : World) (C : Option Addr) (n f : Nat) : Prop := (n = 0 ∧ n ≤ f) ∨ ∃ g cur, C = some ⟨g, 0, none⟩ ∧ w.heap[g]? = some (.cells cur 5 (0, 0)) ∧ n ≤ f ∧ ∀ j, j < n → ∃ x : Nat, x < 256 ∧ cur[j]? = some (.int .u8 (x : Nat))
theorem Bytes.of_own {w : World} {base : Nat} {C : Option Addr} {n f : Nat} {l : List Nat} (h : w.ownsRow base 5 1 (.slice C n f) n (bsV l)) (hl : ∀ x ∈ l, x < 256) : Bytes w C n f := by
  have hlen : l.length = n := by have := h.1; rw [bsV_len] at this; omega
  have hcap := own_cap h
  rcases h.2 with ⟨h1, h0⟩ | ⟨g, cap, cur, hv, _, hg, _, _, _, ht⟩
  · exact .inl ⟨h0, hcap⟩
  · injection hv with h1 _ _
    refine .inr ⟨g, cur, h1, hg, hcap, fun j hj => ?_⟩
    have hr := Reads.of_own h
    obtain ⟨ad, h3, cx⟩ := bsV_at hr hj
    rw [h1] at h3
    cases h3
    have hadd : (⟨g, 0, none⟩ : Addr).add j = ⟨g, j, none⟩ := by unfold Addr.add; split <;> simp_all
    rw [hadd, cell_of_row _ _ j cur 5 (0, 0) hg] at cx
    refine ⟨_, ?_, cx⟩
    rw [List.getD_eq_getElem?_getD, List.getElem?_eq_getElem (by omega)]
    exact hl _ (List.getElem_mem _)
theorem xor255 (x : Nat) (h : x < 256) : ∃ y : Nat, y < 256 ∧ bits .xor .u8 (x : Int) 255 = (y : Int) := by
  have : ∀ x : Nat, x < 256 → bits .xor .u8 (x : Int) 255 = ((255 - x : Nat) : Int) := by decide +kernel
  exact ⟨255 - x, by omega, this x h⟩
theorem Bytes.le {w : World} {C : Option Addr} {n f : Nat} (h : Bytes w C n f) : n ≤ f := by
  rcases h with ⟨_, h⟩ | ⟨g, cur, _, _, h, _⟩ <;> exact h
/-- one byte more is turned -/
theorem over_step {ws wr : World} {C : Option Addr} {n f i : Nat} (hg : ws.grownBy wr (Value.slice C n f).ownBlock) (hb : Bytes wr C n f) (hi : i < n) :
    ∃ (g : Nat) (x : Nat) (y : Nat), C = some ⟨g, 0, none⟩ ∧ wr.cell? ⟨g, i, none⟩ = some (.int .u8 (x : Nat)) ∧ wr.frozen? ⟨g, i, none⟩ = false ∧ g < wr.heap.size ∧ x < 256 ∧ bits .xor .u8 (x : Int) 255 = (y : Int) ∧
      ws.grownBy (wr.setCell ⟨g, i, none⟩ (.int .u8 (y : Nat))) (Value.slice C n f).ownBlock ∧ Bytes (wr.setCell ⟨g, i, none⟩ (.int .u8 (y : Nat))) C n f := by
  rcases hb with ⟨h0, _⟩ | ⟨g, cur, rfl, hgc, hnf, hc⟩
  · omega
  · obtain ⟨x, hx, hcx⟩ := hc i hi
    obtain ⟨y, hy, hxy⟩ := xor255 x hx
    have hB : Blk wr g 5 cur := hgc
    refine ⟨g, x, y, rfl, (hB.cell i).trans hcx, hB.frozen i, hB.lt, hx, hxy, ⟨hg.os, hg.tape, hg.output, by simpa [World.setCell] using hg.size, fun k hk hne => ?_⟩, .inr ⟨g, _, rfl, hB.set_ i _, hnf, fun j hj => ?_⟩⟩
    · exact (Below.heap_setCell wr _ _ k (fun e => hne (by rw [e]; rfl))).trans (hg.block k hk hne)
    · by_cases hij : i = j
      · subst hij
        exact ⟨y, hy, by rw [Array.getElem?_setIfInBounds_self_of_lt (Array.getElem?_eq_some_iff.1 hcx).1]⟩
      · obtain ⟨x', hx', hcx'⟩ := hc j hj
        exact ⟨x', hx', by rw [Array.getElem?_setIfInBounds_ne hij]; exact hcx'⟩
/-- a slice of n bytes in memory of the call's own comes back -/
def RetN (l : List Nat) (n : Nat) (w : World) (e : Ending) (w' : World) : Prop := ∃ C f, e = .returned (.slice C n f) ∧ w'.ownsRow w.heap.size 5 1 (.slice C n f) n (bsV l) ∧ Below w.heap.size w w'
theorem RetB.n {l : List Nat} {n : Nat} {w : World} {e : Ending} {w' : World} (h : RetB l w e w') (hn : n = l.length) : RetN l n w e w' := by subst hn; exact h
/-- the rows of a call that puts: the head, two rows that were put, and two that the document names -/
structure PS (w0 w : World) (C U S A B : Option Addr) (m f nu fu ns fs na nb : Nat) (hs lu ls la lb : List Nat) : Prop where
  low : Below w0.heap.size w0 w
  head : Head hs w0 C m f w
  own1 : ∃ bu, w.ownsRow bu 5 1 (.slice U nu fu) nu (bsV lu) ∧ w0.heap.size ≤ bu ∧ ∀ k, (Value.slice C (m + 12) f).ownBlock = some k → k < bu
  own2 : ∃ bs, w.ownsRow bs 5 1 (.slice S ns fs) ns (bsV ls) ∧ w0.heap.size ≤ bs ∧ (∀ k, (Value.slice C (m + 12) f).ownBlock = some k → k < bs) ∧ ∀ k, (Value.slice U nu fu).ownBlock = some k → k < bs
  rd1 : Reads w 5 1 A na (bsV la)
  rd2 : Reads w 5 1 B nb (bsV lb)
theorem Head.below {hs : List Nat} {w0 w w' : World} {C : Option Addr} {m f : Nat} (h : Head hs w0 C m f w) (hb : Below w.heap.size w w') : Head hs w0 C m f w' := ⟨h.1, own_below h.2 hb⟩
theorem Head.reads {hs : List Nat} {w0 w : World} {C : Option Addr} {m f : Nat} (h : Head hs w0 C m f w) : Reads w 5 1 C m (bsV hs) := by
  have h2 := (Reads.of_own h.2).take (k := m) (by omega)
  rw [Nat.mul_one, bsV_app, show m = (bsV hs).length by rw [bsV_len, h.1], List.take_left, bsV_len, h.1] at h2
  exact h2
theorem Head.cap {hs : List Nat} {w0 w : World} {C : Option Addr} {m f : Nat} (h : Head hs w0 C m f w) : m + 12 ≤ f ∧ f ≤ maxLen := by
  have hnf := own_cap h.2
  obtain ⟨A', c', h1, _, hf⟩ := own_form h.2
  injection h1 with _ _ h1
  exact ⟨hnf, by omega⟩
section
variable {w0 w w' : World} {C U S A B : Option Addr} {m f nu fu ns fs na nb : Nat} {hs lu ls la lb : List Nat}
theorem PS.below (h : PS w0 w C U S A B m f nu fu ns fs na nb hs lu ls la lb) (hb : Below w.heap.size w w') : PS w0 w' C U S A B m f nu fu ns fs na nb hs lu ls la lb := by
  obtain ⟨bu, h1, h2, h3⟩ := h.own1
  obtain ⟨bs, h4, h5, h6, h7⟩ := h.own2
  exact ⟨below_of' h.low hb, h.head.below hb, ⟨bu, own_below h1 hb, h2, h3⟩, ⟨bs, own_below h4 hb, h5, h6, h7⟩, h.rd1.below hb, h.rd2.below hb⟩
theorem PS.drewN (h : PS w0 w C U S A B m f nu fu ns fs na nb hs lu ls la lb) (q : Nat) : PS w0 (w.drewN q) C U S A B m f nu fu ns fs na nb hs lu ls la lb := h.below (below_drewN (Below.refl _ _) q)
theorem PS.reads1 (h : PS w0 w C U S A B m f nu fu ns fs na nb hs lu ls la lb) : Reads w 5 1 U nu (bsV lu) := by
  obtain ⟨bu, h1, _⟩ := h.own1
  exact Reads.of_own h1
theorem PS.reads2 (h : PS w0 w C U S A B m f nu fu ns fs na nb hs lu ls la lb) : Reads w 5 1 S ns (bsV ls) := by
  obtain ⟨bu, h1, _⟩ := h.own2
  exact Reads.of_own h1
theorem ne_row {v u : Value} {b : Nat} (h : ∀ k, v.ownBlock = some k → k < b) (hu : ∀ k, u.ownBlock = some k → b ≤ k) : v.ownBlock = none ∨ v.ownBlock ≠ u.ownBlock := by
  cases hv : v.ownBlock with
  | none => exact .inl rfl
  | some k =>
    refine .inr fun e => ?_
    have h1 := h k hv
    have h2 := hu k e.symm
    omega
/-- the first row was written over -/
theorem PS.over1 (h : PS w0 w C U S A B m f nu fu ns fs na nb hs lu ls la lb) (hg : w.grownBy w' (Value.slice U nu fu).ownBlock) :
    Below w0.heap.size w0 w' ∧ Head hs w0 C m f w' ∧ ∃ bs, w'.ownsRow bs 5 1 (.slice S ns fs) ns (bsV ls) ∧ w0.heap.size ≤ bs ∧ (∀ k, (Value.slice C (m + 12) f).ownBlock = some k → k < bs) := by
  obtain ⟨bu, h1, h2, h3⟩ := h.own1
  obtain ⟨bs, h4, h5, h6, h7⟩ := h.own2
  have hlu : ∀ k, (Value.slice U nu fu).ownBlock = some k → bu ≤ k := fun k hk => (h1.lt k hk).1
  have hls : ∀ k, (Value.slice S ns fs).ownBlock = some k → bs ≤ k := fun k hk => (h4.lt k hk).1
  refine ⟨h.low.grown hg h.low.size (fun k hk => Nat.le_trans h2 (hlu k hk)), ⟨h.head.1, h.head.2.kept hg (ne_row h3 hlu)⟩, bs, h4.kept hg ?_, h5, h6⟩
  cases hv : (Value.slice S ns fs).ownBlock with
  | none => exact .inl rfl
  | some k =>
    refine .inr fun e => ?_
    have h8 := h7 k e.symm
    have h9 := hls k hv
    omega
/-- the second one, too -/
theorem over2 {bs : Nat} (hl : Below w0.heap.size w0 w) (hh : Head hs w0 C m f w) (h4 : w.ownsRow bs 5 1 (.slice S ns fs) ns (bsV ls)) (h5 : w0.heap.size ≤ bs) (h6 : ∀ k, (Value.slice C (m + 12) f).ownBlock = some k → k < bs) (hg : w.grownBy w' (Value.slice S ns fs).ownBlock) :
    Below w0.heap.size w0 w' ∧ Head hs w0 C m f w' := by
  have hls : ∀ k, (Value.slice S ns fs).ownBlock = some k → bs ≤ k := fun k hk => (h4.lt k hk).1
  exact ⟨hl.grown hg hl.size (fun k hk => Nat.le_trans h5 (hls k hk)), hh.1, hh.2.kept hg (ne_row h6 hls)⟩
end
end Go.Proofs.Ytcdkibpfgnmmfaa
