/- A frame: all but one block. -/
import Derived.Test.YtgdnpmjmkcccoaaMem
namespace Go.Proofs.Ytgdnpmjmkcccoaa
open Go.RowKit
/-- all that was there is as it was, but the block g -/
structure But (g : Nat) (w w' : World) : Prop where
  os : w'.os = w.os
  tape : w'.tape = w.tape
  output : w'.output = w.output
  size : w.heap.size ≤ w'.heap.size
  block : ∀ k, k < w.heap.size → k ≠ g → w'.heap[k]? = w.heap[k]?
section
variable {g : Nat} {a b c w w' : World}
theorem But.refl (g : Nat) (w : World) : But g w w := ⟨rfl, rfl, rfl, Nat.le_refl _, fun _ _ _ => rfl⟩
theorem But.trans (h : But g a b) (k : But g b c) : But g a c :=
  ⟨k.os.trans h.os, k.tape.trans h.tape, k.output.trans h.output, Nat.le_trans h.size k.size, fun i hi hn => (k.block i (Nat.lt_of_lt_of_le hi h.size) hn).trans (h.block i hi hn)⟩
theorem But.drew (h : But g a w) : But g a w.drew := ⟨h.os, h.tape, h.output, h.size, h.block⟩
theorem But.undrew (h : But g w.drew w') : But g w w' := ⟨h.os, h.tape, h.output, h.size, h.block⟩
theorem But.alloc (h : But g a w) (o : Obj) : But g a (w.alloc o) :=
  ⟨h.os, h.tape, h.output, Nat.le_trans h.size (by simp), fun k hk hn => (Below.heap_alloc w o k (Nat.lt_of_lt_of_le hk h.size)).trans (h.block k hk hn)⟩
theorem But.setg (h : But g a w) (i : Nat) (u : Value) : But g a (w.setCell ⟨g, i, none⟩ u) :=
  ⟨h.os, h.tape, h.output, by simp; exact h.size, fun k hk hn => (Below.heap_setCell w ⟨g, i, none⟩ u k hn).trans (h.block k hk hn)⟩
theorem But.setn (h : But g a w) {p : Addr} (hp : a.heap.size ≤ p.block) (u : Value) : But g a (w.setCell p u) :=
  ⟨h.os, h.tape, h.output, by simp; exact h.size, fun k hk hn => (Below.heap_setCell w p u k (by omega)).trans (h.block k hk hn)⟩
theorem But.of_below (h : Below w.heap.size w w') : But g w w' := ⟨h.os, h.tape, h.output, h.size, fun k hk _ => h.block k hk⟩
theorem But.step (h : But g a w) (k : Below w.heap.size w w') : But g a w' := h.trans (But.of_below k)
theorem But.below {B : Nat} {W : World} (h : Below B W w) (k : But g w w') (hg : B ≤ g) (hB : B ≤ w.heap.size) : Below B W w' :=
  ⟨k.os.trans h.os, k.tape.trans h.tape, k.output.trans h.output, Nat.le_trans h.size k.size, fun i hi => (k.block i (Nat.lt_of_lt_of_le hi hB) (by omega)).trans (h.block i hi)⟩
theorem But.above (k : But g w w') (hg : w.heap.size ≤ g) : Below w.heap.size w w' := ⟨k.os, k.tape, k.output, k.size, fun i hi => k.block i hi (by omega)⟩
theorem Blk.but {q : Nat} {t : TypeId} {cs : Array Value} (h : Blk w q t cs) (k : But g w w') (hn : q ≠ g) : Blk w' q t cs := (k.block q h.lt hn).trans h
theorem ne_typed {q : Nat} {t e : TypeId} (h : Typed w q t) (k : Typed w g e) (hne : t ≠ e) : q ≠ g := by
  rintro rfl
  obtain ⟨c1, r1, h1⟩ := h
  obtain ⟨c2, r2, h2⟩ := k
  rw [h1] at h2
  injection h2 with h2
  injection h2 with _ h3
  exact hne h3
theorem Reads.but {e t : TypeId} {size n : Nat} {A : Option Addr} {xs : List Value} (h : Reads w e size A n xs) (k : But g w w') (ht : Typed w g t) (hne : e ≠ t) : Reads w' e size A n xs :=
  h.keep fun b hb => k.block b hb.lt (ne_typed hb ht hne)
theorem own_but {base : Nat} {e t : TypeId} {size n : Nat} {v : Value} {xs : List Value} (h : w.ownsRow base e size v n xs) (k : But g w w') (ht : Typed w g t) (hne : e ≠ t) : w'.ownsRow base e size v n xs := by
  obtain ⟨h1, h2⟩ := h
  refine ⟨h1, h2.imp id ?_⟩
  rintro ⟨b, cap, cs, hv, hb, hh, hr⟩
  have hq : Typed w b e := ⟨_, _, hh⟩
  exact ⟨b, cap, cs, hv, hb, (k.block b hq.lt (ne_typed hq ht hne)).trans hh, hr⟩
end
end Go.Proofs.Ytgdnpmjmkcccoaa
