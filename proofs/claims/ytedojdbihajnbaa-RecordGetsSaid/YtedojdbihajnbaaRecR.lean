/- Contracts: record: what a kind puts (seat Record). -/
import Derived.Test.YtedojdbihajnbaaRecQ
namespace Go.Proofs.Ytedojdbihajnbaa
open Go.RowKit Go.Shelf VB
open Go.Lib (hid)
set_option linter.unusedVariables false
set_option linter.unusedSimpArgs false
def bodyB (m : Mu) : List Nat := if m.kind = 1 then vb m.eps.toNat ++ vb (fold64 m.scale) else if m.kind = 2 then [] else if m.kind = 3 then vb m.pts.length ++ ptsBy m.pts m.pts.length else vb m.floor.toNat
def nmL (s : ByteArray) : List Nat := s.data.toList.map (·.toNat)
/-- a mutation's bytes -/
def mutB (m : Mu) : List Nat := ([m.kind.toNat, m.name.size] ++ nmL m.name) ++ bodyB m
structure Right (m : Mu) : Prop where
  bare : m = bareM m
  name : nameB m.name = true
  k1 : 1 ≤ m.kind
  k4 : m.kind ≤ 4
  f0 : 0 ≤ m.floor
  f1 : m.floor ≤ 281474976710656
  e0 : 0 ≤ m.eps
  e1 : m.eps ≤ 1099511627776
  s0 : -40 ≤ m.scale
  s1 : m.scale ≤ 40
  len : m.kind = 3 → 1 ≤ m.pts.length ∧ m.pts.length ≤ 16
  pts : m.pts.all ptB = true
theorem right_of {m : Mu} (h : rightB m = true) : Right m := by
  unfold rightB headB epsB lenB at h
  simp only [Bool.and_eq_true, decide_eq_true_eq, Bool.or_eq_true] at h
  obtain ⟨⟨⟨⟨⟨⟨⟨a, b⟩, c⟩, d⟩, e⟩, ⟨⟨f, g⟩, i⟩, j⟩, k⟩, l⟩ := h
  unfold timeB at e
  simp only [Bool.and_eq_true, decide_eq_true_eq] at e
  exact ⟨a, b, c, d, e.1, e.2, f, g, i, j, fun h3 => by rcases k with k | k; exact absurd h3 k; exact k, l⟩
theorem Right.len16 {m : Mu} (h : Right m) : m.pts.length ≤ 16 := by
  by_cases h3 : m.kind = 3
  · exact (h.len h3).2
  · have : m.pts = [] := by rw [h.bare]; unfold bareM; simp [h3]
    rw [this]; simp
/-- what a method that writes leaves; its bytes lie above base -/
def RetPB (base : Nat) (l : List Nat) (m : Mu) (P : Value) (g : Nat) (w : World) (e : Ending) (w' : World) : Prop :=
  ∃ C f, e = .returned (.tuple #[]) ∧ But g w w' ∧ Blk w' g 64 (tapeC m.kind m.name m.eps m.floor m.scale P C l.length f 0) ∧ w'.ownsRow base 5 1 (.slice C l.length f) l.length (bsV l)
def PutsAs (m : Mu) (ka : Nat) : Prop := ∀ (base : Nat) (W : World) (g : Nat) (A C : Option Addr) (c f : Nat) (e1 : TypeId) (l : List Nat), Blk W g 64 (tapeC m.kind m.name m.eps m.floor m.scale (.slice A m.pts.length c) C l.length f 0) → W.ownsRow base 5 1 (.slice C l.length f) l.length (bsV l) → base ≤ W.heap.size →
  Reads W e1 2 A m.pts.length (m.pts.flatMap cellsP) → (∀ ad, A = some ad → 0 < m.pts.length → ad.block ≠ g) → l.length ≤ 1000 → Calls Try.prog ka #[.pointer (some ⟨g, 0, none⟩)] W (RetPB base (l ++ bodyB m) m (.slice A m.pts.length c) g W)
def LooksUp (m : Mu) (ka kb : Nat) : Prop := ∀ (w : World) (r : Nat), w.heap[r]? = some (.map kindsE 4) → (Instr.lookup 68 (.map (some r)) (.int .i64 m.kind) false).run Try.prog w = .ok (kindV ka kb) w
def EntersAs (ka : Nat) : Prop := ∀ (args : Array Value) (w : World), Sem.run Try.prog (callFunc ka args) w = .ok (.enter ka args) w
theorem put_any {m : Mu} (h : Right m) : ∃ ka kb, LooksUp m ka kb ∧ PutsAs m ka ∧ EntersAs ka := by
  have hcs : m.kind = 1 ∨ m.kind = 2 ∨ m.kind = 3 ∨ m.kind = 4 := by have := h.k1; have := h.k4; omega
  rcases hcs with hk | hk | hk | hk
  · refine ⟨56, 57, ?_, ?_, fun _ _ => rfl⟩
    · intro w r hm
      rw [hk]
      exact lookup_hit w _ _ _ _ r 4 0 kindsE 1 _ false Try.underlying68 Try.underlying3 hm rfl
    · intro base W g A C c f e1 l kt hown hb hp hA hl
      refine (putBound_c kt (Reads.of_own hown) (by omega) h.e0 (by have := h.e1; omega) (by have := h.s0; omega) (by have := h.s1; omega)).mono ?_
      rintro e w' ⟨C', f', rfl, hbut, kt', hown'⟩
      have e : l ++ bodyB m = l ++ vb m.eps.toNat ++ vb (fold64 m.scale) := by unfold bodyB; rw [if_pos hk, List.append_assoc]
      rw [e]
      exact ⟨C', f', rfl, hbut, kt', own_low hown' hb⟩
  · refine ⟨58, 58, ?_, ?_, fun _ _ => rfl⟩
    · intro w r hm
      rw [hk]
      exact lookup_hit w _ _ _ _ r 4 1 kindsE 2 _ false Try.underlying68 Try.underlying3 hm rfl
    · intro base W g A C c f e1 l kt hown hb hp hA hl
      refine (nothing_c _ _).mono ?_
      rintro e w' ⟨rfl, rfl⟩
      have e : l ++ bodyB m = l := by unfold bodyB; rw [if_neg (by omega), if_pos hk, List.append_nil]
      rw [e]
      exact ⟨C, f, rfl, But.refl _ _, kt, hown⟩
  · refine ⟨59, 60, ?_, ?_, fun _ _ => rfl⟩
    · intro w r hm
      rw [hk]
      exact lookup_hit w _ _ _ _ r 4 2 kindsE 3 _ false Try.underlying68 Try.underlying3 hm rfl
    · intro base W g A C c f e1 l kt hown hb hp hA hl
      refine (putPoints_c kt (Reads.of_own hown) (by omega) hp (fun ad h' => hA ad h' (h.len hk).1) (by have := h.len16; omega) h.pts).mono ?_
      rintro e w' ⟨C', f', rfl, hbut, kt', hown'⟩
      have e : l ++ bodyB m = l ++ vb m.pts.length ++ ptsBy m.pts m.pts.length := by unfold bodyB; rw [if_neg (by omega), if_neg (by omega), if_pos hk, List.append_assoc]
      rw [e]
      exact ⟨C', f', rfl, hbut, kt', own_low hown' hb⟩
  · refine ⟨61, 62, ?_, ?_, fun _ _ => rfl⟩
    · intro w r hm
      rw [hk]
      exact lookup_hit w _ _ _ _ r 4 3 kindsE 4 _ false Try.underlying68 Try.underlying3 hm rfl
    · intro base W g A C c f e1 l kt hown hb hp hA hl
      refine (putFloor_c kt (Reads.of_own hown) (by omega) h.f0 (by have := h.f1; omega)).mono ?_
      rintro e w' ⟨C', f', rfl, hbut, kt', hown'⟩
      have e : l ++ bodyB m = l ++ vb m.floor.toNat := by unfold bodyB; rw [if_neg (by omega), if_neg (by omega), if_neg (by omega)]
      rw [e]
      exact ⟨C', f', rfl, hbut, kt', own_low hown' hb⟩
end Go.Proofs.Ytedojdbihajnbaa
