/- Contracts of vary: PutU, Put. -/
import Derived.Test.YtgdnpmjmkcccoaaVarC
namespace Go.Proofs.Ytgdnpmjmkcccoaa
open Go.RowKit Go.Shelf VB
set_option linter.unusedVariables false
theorem RetB.dig {l : List Nat} {w : World} {e : Ending} {w' : World} (h : RetB l w e w') : ∃ C f, e = .returned (.slice C l.length f) ∧ l.length ≤ f ∧ w'.ownsRow w.heap.size 5 1 (.slice C l.length f) l.length (bsV l) ∧ Reads w' 5 1 C l.length (bsV l) ∧ Below w.heap.size w w' := by
  obtain ⟨C, f, h1, h2, h3⟩ := h
  exact ⟨C, f, h1, own_cap h2, h2, Reads.of_own h2, h3⟩
theorem own_base {w : World} {base base' n z : Nat} {e : TypeId} {v : Value} {xs : List Value} (h : w.ownsRow base e z v n xs) (hb : base' ≤ base) : w.ownsRow base' e z v n xs := by
  refine ⟨h.1, ?_⟩
  rcases h.2 with h2 | ⟨g, cap, cur, rfl, hg, rest⟩
  · exact .inl h2
  · exact .inr ⟨g, cap, cur, rfl, Nat.le_trans hb hg, rest⟩
theorem ret_up {l : List Nat} {w w1 : World} {e : Ending} {w' : World} (h : RetB l w1 e w') (hb : Below w.heap.size w w1) : RetB l w e w' := by
  obtain ⟨C, f, h1, h2, h3⟩ := h
  exact ⟨C, f, h1, own_base h2 hb.size, below_of' hb h3⟩
theorem one_reads (w : World) (e : TypeId) (v : Value) : Reads (w.alloc (.cells #[v] e)) e 1 (some ⟨w.heap.size, 0, none⟩) 1 [v] := by
  refine ⟨rfl, fun _ => ⟨_, rfl, ⟨_, _, heap_alloc_new w _⟩, ?_⟩⟩
  exact cell_one_new _ _ _
set_option maxHeartbeats 400000 in
theorem PutU_c (A : Option Addr) (n c : Nat) (bs : List Nat) (m : Nat) (w : World) (hb : Reads w 5 1 A n (bsV bs)) (hn : n ≤ 1000000) (hm : m < 18446744073709551616) :
    Calls Try.prog 82 #[.slice A n c, .int .u64 (m : Nat)] w (RetB (bs ++ vb m) w) := by
  have hbl : bs.length = n := by have := hb.1; rw [bsV_len] at this; omega
  have HC := Lib.hid (puts_u A (some ⟨w.heap.size, 0, none⟩) n c 1 1 bs [(m : Int)] (w.alloc (.cells #[.int .u64 (m : Nat)] 94)) (hb.alloc _) hbl hn (one_reads _ _ _) rfl (by decide) (by intro z hz; rw [List.mem_singleton] at hz; omega))
  obtain ⟨l, hl⟩ : ∃ l, l = bs ++ vb m := ⟨_, rfl⟩
  rw [← hl]
  have HL := Lib.hid hl
  clear hl
  go_enter Try.func82, Try.ntmps82
  go_wp2_with fail
  refine HC.out.mono ?_
  intro e w' h
  simp only [List.map_cons, List.map_nil, List.flatMap_cons, List.flatMap_nil, List.append_nil, Int.toNat_natCast] at h
  rw [← HL.out] at h
  have h2 := ret_up (w := w) h ((Below.refl _ _).alloc (Nat.le_refl _) _)
  obtain ⟨C, f, rfl, h3⟩ := h2
  have H3 := Lib.hid h3
  clear h h3
  go_wp2
  go_ret
  exact ⟨C, f, rfl, H3.out⟩
set_option maxHeartbeats 400000 in
theorem Put_c (A : Option Addr) (n c : Nat) (bs : List Nat) (z : Int) (w : World) (hb : Reads w 5 1 A n (bsV bs)) (hn : n ≤ 1000000) (hz : -9223372036854775808 ≤ z) (hz2 : z ≤ 9223372036854775807) :
    Calls Try.prog 83 #[.slice A n c, .int .i64 z] w (RetB (bs ++ vb (fold64 z)) w) := by
  have hbl : bs.length = n := by have := hb.1; rw [bsV_len] at this; omega
  have HC := Lib.hid (puts_i A (some ⟨w.heap.size, 0, none⟩) n c 1 1 bs [z] (w.alloc (.cells #[.int .i64 z] 2)) (hb.alloc _) hbl hn (one_reads _ _ _) rfl (by decide) (by intro z hz; rw [List.mem_singleton] at hz; omega))
  obtain ⟨l, hl⟩ : ∃ l, l = bs ++ vb (fold64 z) := ⟨_, rfl⟩
  rw [← hl]
  have HL := Lib.hid hl
  clear hl
  go_enter Try.func83, Try.ntmps83
  go_wp2_with fail
  refine HC.out.mono ?_
  intro e w' h
  simp only [List.map_cons, List.map_nil, List.flatMap_cons, List.flatMap_nil, List.append_nil] at h
  rw [← HL.out] at h
  have h2 := ret_up (w := w) h ((Below.refl _ _).alloc (Nat.le_refl _) _)
  obtain ⟨C, f, rfl, h3⟩ := h2
  have H3 := Lib.hid h3
  clear h h3
  go_wp2
  go_ret
  exact ⟨C, f, rfl, H3.out⟩
end Go.Proofs.Ytgdnpmjmkcccoaa
