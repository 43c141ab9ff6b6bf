/- Laws: a map of whole numbers, by its entries. -/
import Derived.Test.YtgdnpmjmkcccoaaBut
import Derived.WideMake
import Derived.Carry
namespace Go.Proofs.Ytgdnpmjmkcccoaa
open Go.RowKit
section
variable {P : Program}
/-- a key that was not there -/
theorem mapUpdate_new (w : World) (mty kt et : TypeId) (q : IntKind) (r clock : Nat) (es : Array MapEntry) (key : Int) (val : Value) (hm : P.underlying mty = some (.map kt et)) (hk : P.underlying kt = some (.int q)) (hb : w.heap[r]? = some (.map es clock))
    (hf : Instr.findNow (.int q) (.int q key) es.toList 0 = some none) :
    ∃ w', (Instr.mapUpdate mty (.map (some r)) (.int q key) val).run P w = .ok () w' ∧ w'.heap[r]? = some (.map (es.push { key := .int q key, val := val, born := clock }) (clock + 1)) ∧ But r w w' := by
  have hc : (Instr.checkKey false 10000 kt (.int q key)).run P w = .ok () w := MapKept.run_checkKey (k := .int q key) hk (by simp [MapKept.IsKey]) false 9999
  refine ⟨{ w with heap := w.heap.setIfInBounds r (.map (es.push { key := .int q key, val := val, born := clock }) (clock + 1)) }, ?_, ?_, ?_⟩
  · simp [Instr.mapUpdate, run_underlying hm, MapKept.run_getObj_map hb, hc, MapKept.run_findKey hk hf, MapKept.run_setObj_map _ hb, Result.andThen]
  · have hr : r < w.heap.size := by
      rw [Array.getElem?_eq_some_iff] at hb
      exact hb.1
    simp [hr]
  · refine ⟨rfl, rfl, rfl, by simp, fun k hk hn => ?_⟩
    simp [Ne.symm hn]
/-- a key that was there -/
theorem mapUpdate_old (w : World) (mty kt et : TypeId) (q : IntKind) (r clock i : Nat) (es : Array MapEntry) (key : Int) (val v0 : Value) (hm : P.underlying mty = some (.map kt et)) (hk : P.underlying kt = some (.int q)) (hb : w.heap[r]? = some (.map es clock))
    (hf : Instr.findNow (.int q) (.int q key) es.toList 0 = some (some (i, v0))) (hi : (es[i]?).map (·.key) = some (.int q key)) :
    ∃ w', (Instr.mapUpdate mty (.map (some r)) (.int q key) val).run P w = .ok () w' ∧ w'.heap[r]? = some (.map (es.modify i fun e => { e with key := .int q key, val := val }) clock) ∧ But r w w' := by
  have hc : (Instr.checkKey false 10000 kt (.int q key)).run P w = .ok () w := MapKept.run_checkKey (k := .int q key) hk (by simp [MapKept.IsKey]) false 9999
  have hst : Instr.keyThatStays (.int q key) (.int q key) = pure (.int q key) := by unfold Instr.keyThatStays; simp [Instr.sameBits]
  refine ⟨{ w with heap := w.heap.setIfInBounds r (.map (es.modify i fun e => { e with key := .int q key, val := val }) clock) }, ?_, ?_, ?_⟩
  · simp [Instr.mapUpdate, run_underlying hm, MapKept.run_getObj_map hb, hc, MapKept.run_findKey hk hf, MapKept.run_setObj_map _ hb, Result.andThen, hi, hst]
  · have hr : r < w.heap.size := by
      rw [Array.getElem?_eq_some_iff] at hb
      exact hb.1
    simp [hr]
  · refine ⟨rfl, rfl, rfl, by simp, fun k hk hn => ?_⟩
    simp [Ne.symm hn]
/-- a look-up that finds -/
theorem lookup_hit (w : World) (mty kt et : TypeId) (q : IntKind) (r clock i : Nat) (es : Array MapEntry) (key : Int) (v : Value) (c : Bool) (hm : P.underlying mty = some (.map kt et)) (hk : P.underlying kt = some (.int q)) (hb : w.heap[r]? = some (.map es clock))
    (hf : Instr.findNow (.int q) (.int q key) es.toList 0 = some (some (i, v))) :
    (Instr.lookup mty (.map (some r)) (.int q key) c).run P w = .ok (if c then .tuple #[v, .bool true] else v) w := by
  have hc : (Instr.checkKey es.isEmpty 10000 kt (.int q key)).run P w = .ok () w := MapKept.run_checkKey (k := .int q key) hk (by simp [MapKept.IsKey]) _ 9999
  simp [Instr.lookup, run_underlying hm, MapKept.run_getObj_map hb, hc, MapKept.run_findKey hk hf, Result.andThen]
/-- a look-up that finds nothing -/
theorem lookup_miss (w : World) (mty kt et : TypeId) (q : IntKind) (r clock : Nat) (es : Array MapEntry) (key : Int) (z : Value) (c : Bool) (hm : P.underlying mty = some (.map kt et)) (hk : P.underlying kt = some (.int q)) (hb : w.heap[r]? = some (.map es clock)) (hz : (zeroValue et).run P w = .ok z w)
    (hf : Instr.findNow (.int q) (.int q key) es.toList 0 = some none) :
    (Instr.lookup mty (.map (some r)) (.int q key) c).run P w = .ok (if c then .tuple #[z, .bool false] else z) w := by
  have hc : (Instr.checkKey es.isEmpty 10000 kt (.int q key)).run P w = .ok () w := MapKept.run_checkKey (k := .int q key) hk (by simp [MapKept.IsKey]) _ 9999
  simp [Instr.lookup, run_underlying hm, MapKept.run_getObj_map hb, hc, MapKept.run_findKey hk hf, Result.andThen, hz]
end
end Go.Proofs.Ytgdnpmjmkcccoaa
