/- Contracts of record: kinds, mutation (seat Record). -/
import Derived.Test.YtedojdbihajnbaaRecD
import Derived.Test.YtedojdbihajnbaaMap
namespace Go.Proofs.Ytedojdbihajnbaa
open Go.RowKit Go.Shelf VB
open Go.Lib (hid)
set_option linter.unusedVariables false
set_option linter.unusedSimpArgs false
abbrev kindV (a b : Nat) : Value := .agg #[.func (.func a) #[] #[], .func (.func b) #[] #[]]
/-- all kinds, as entries -/
def kindsE : Array MapEntry := #[{ key := .int .i64 1, val := kindV 56 57, born := 0 }, { key := .int .i64 2, val := kindV 58 58, born := 1 },
  { key := .int .i64 3, val := kindV 59 60, born := 2 }, { key := .int .i64 4, val := kindV 61 62, born := 3 }]
theorem map_lt {w : World} {r clock : Nat} {es : Array MapEntry} (h : w.heap[r]? = some (.map es clock)) : r < w.heap.size := (Array.getElem?_eq_some_iff.1 h).1
set_option maxRecDepth 100000 in
set_option maxHeartbeats 400000 in
theorem kinds_c (w : World) : Calls Try.prog 40 #[] w fun e w' => e = .returned (.map (some w.heap.size)) ∧ w'.heap[w.heap.size]? = some (.map kindsE 4) ∧ Below w.heap.size w w' := by
  have h0 : (w.alloc (.map #[] 0)).heap[w.heap.size]? = some (.map #[] 0) := heap_alloc_new w _
  have hmm := @run_makeMap Try.prog
  obtain ⟨w1, r1, h1, b1⟩ := mapUpdate_new (P := Try.prog) (w.alloc (.map #[] 0)) 68 3 67 .i64 w.heap.size 0 #[] 1 (kindV 56 57) Try.underlying68 Try.underlying3 h0 rfl
  obtain ⟨w2, r2, h2, b2⟩ := mapUpdate_new (P := Try.prog) w1 68 3 67 .i64 w.heap.size 1 _ 2 (kindV 58 58) Try.underlying68 Try.underlying3 h1 rfl
  obtain ⟨w3, r3, h3, b3⟩ := mapUpdate_new (P := Try.prog) w2 68 3 67 .i64 w.heap.size 2 _ 3 (kindV 59 60) Try.underlying68 Try.underlying3 h2 rfl
  obtain ⟨w4, r4, h4, b4⟩ := mapUpdate_new (P := Try.prog) w3 68 3 67 .i64 w.heap.size 3 _ 4 (kindV 61 62) Try.underlying68 Try.underlying3 h3 rfl
  have H4 := hid (show w4.heap[w.heap.size]? = some (.map kindsE 4) from h4)
  have HB := hid ((((But.refl w.heap.size w).alloc (.map #[] 0)).trans ((b1.trans b2).trans (b3.trans b4))).above (Nat.le_refl _))
  clear h0 h1 h2 h3 h4 b1 b2 b3 b4
  go_enter Try.func40, Try.ntmps40
  go_wp2
  go_ret
  exact ⟨rfl, H4.out, HB.out⟩
end Go.Proofs.Ytedojdbihajnbaa
