/-
  No cell of these rows narrows 'for every input' (looked for: loops, veiled, ifaces, maps, wideKeys, modest, calm, conditions, laid).
  DERIVED. THE GIVEN ROWS OF THIS SEAT. 8 by the template 'for every input the law returns true; each argument reads behind the call as it read before'; 0 by the template 'total and deterministic' (their statements: YthkncbfaehgenaaTotals.lean).
  GIVEN WITH THE SEED: the statements are not yours to turn. If you find one false, say at which input.
  Laid BY PROGRAM, IN A SANDBOX (cutbox-rows.mjs): the forced cells as the released guide's own fill.sh prints them over the translation dcd59a01b14367e4… (all of the seat's roots in one cut). By AI agents, Wed Nov 11 2026. No macro, syntax, notation, axiom, sorry.
-/
import Derived.Test.YthkncbfaehgenaaChecked
import GoSem.Claim
import GoSem.ClaimJoined
import GoSem.ClaimMapViews
import Derived.JoinedTies
import Derived.KernelRfl
namespace Go.Proofs.Ythkncbfaehgenaa
/- THE CELL 'sum', in the pinned program and in every row, IS THE sha256 OF THE DUMP (.gsa) THAT YthkncbfaehgenaaProg.lean LOADS. Nothing in Lean hashes anything: it is a label: what it is worth is what the hold of that sum in a sandbox is worth. -/
noncomputable def Try.pinned : Pinned := { name := "ythkncbfaehgenaa", sum := "dcd59a01b14367e471e7c3e6bd363c518c1e6e579ecd62d3626e78f0906aaf5e", checked := Try.checked }
namespace Rows
def none {H : Type} : Left H := { results := [], args := [] }

/-- 'yearbooklaw03.GaugeFloats': WHATEVER THE INPUT: true; the input reads as it did. -/
def gaugeFloatsSpec : ChangeSpec := { name := "gaugeFloats", fn := fun _ => fun
  | [d1, d2] => { results := [.lit (.bool true)], args := [d1, d2] }
  | _ => none }
def gaugeFloatsRow : OpenClaim := { program := "ythkncbfaehgenaa", sum := "dcd59a01b14367e471e7c3e6bd363c518c1e6e579ecd62d3626e78f0906aaf5e", func := "yearbook/yearbooklaw03.GaugeFloats", spec := "gaugeFloats", inPlace := ["math.Float64bits"], unfollowed := true, recurses := true, apart := false }
def GaugeFloatsSaid : Prop := gaugeFloatsRow.holds Try.pinned (OpenSpec.ofChange gaugeFloatsSpec)

/-- ITS FALSE NEIGHBOUR: 'it returns false'. Refute it at one input. -/
def gaugeFloatsWrong : ChangeSpec := { name := "gaugeFloats", fn := fun _ => fun
  | [d1, d2] => { results := [.lit (.bool false)], args := [d1, d2] }
  | _ => none }
def GaugeFloatsWrongFalsely : Prop := gaugeFloatsRow.holds Try.pinned (OpenSpec.ofChange gaugeFloatsWrong)

/-- 'yearbooklaw03.GaugeBack': WHATEVER THE INPUT: true; the input reads as it did. -/
def gaugeBackSpec : ChangeSpec := { name := "gaugeBack", fn := fun _ => fun
  | [d1, d2] => { results := [.lit (.bool true)], args := [d1, d2] }
  | _ => none }
def gaugeBackRow : OpenClaim := { program := "ythkncbfaehgenaa", sum := "dcd59a01b14367e471e7c3e6bd363c518c1e6e579ecd62d3626e78f0906aaf5e", func := "yearbook/yearbooklaw03.GaugeBack", spec := "gaugeBack", inPlace := ["math.Float64bits"], unfollowed := true, recurses := true, apart := false }
def GaugeBackSaid : Prop := gaugeBackRow.holds Try.pinned (OpenSpec.ofChange gaugeBackSpec)

/-- ITS FALSE NEIGHBOUR: 'it returns false'. Refute it at one input. -/
def gaugeBackWrong : ChangeSpec := { name := "gaugeBack", fn := fun _ => fun
  | [d1, d2] => { results := [.lit (.bool false)], args := [d1, d2] }
  | _ => none }
def GaugeBackWrongFalsely : Prop := gaugeBackRow.holds Try.pinned (OpenSpec.ofChange gaugeBackWrong)

/-- 'yearbooklaw03.GaugeMiddle': WHATEVER THE INPUT: true; the input reads as it did. -/
def gaugeMiddleSpec : ChangeSpec := { name := "gaugeMiddle", fn := fun _ => fun
  | [d1, d2] => { results := [.lit (.bool true)], args := [d1, d2] }
  | _ => none }
def gaugeMiddleRow : OpenClaim := { program := "ythkncbfaehgenaa", sum := "dcd59a01b14367e471e7c3e6bd363c518c1e6e579ecd62d3626e78f0906aaf5e", func := "yearbook/yearbooklaw03.GaugeMiddle", spec := "gaugeMiddle", inPlace := ["math.Float64bits"], unfollowed := true, recurses := true, apart := false }
def GaugeMiddleSaid : Prop := gaugeMiddleRow.holds Try.pinned (OpenSpec.ofChange gaugeMiddleSpec)

/-- ITS FALSE NEIGHBOUR: 'it returns false'. Refute it at one input. -/
def gaugeMiddleWrong : ChangeSpec := { name := "gaugeMiddle", fn := fun _ => fun
  | [d1, d2] => { results := [.lit (.bool false)], args := [d1, d2] }
  | _ => none }
def GaugeMiddleWrongFalsely : Prop := gaugeMiddleRow.holds Try.pinned (OpenSpec.ofChange gaugeMiddleWrong)

/-- 'yearbooklaw03.GaugeFixed': WHATEVER THE INPUT: true; the input reads as it did. -/
def gaugeFixedSpec : ChangeSpec := { name := "gaugeFixed", fn := fun _ => fun
  | [d1, d2] => { results := [.lit (.bool true)], args := [d1, d2] }
  | _ => none }
def gaugeFixedRow : OpenClaim := { program := "ythkncbfaehgenaa", sum := "dcd59a01b14367e471e7c3e6bd363c518c1e6e579ecd62d3626e78f0906aaf5e", func := "yearbook/yearbooklaw03.GaugeFixed", spec := "gaugeFixed", inPlace := ["math.Float64bits", "math.Float64frombits"], unfollowed := true, recurses := true, apart := false }
def GaugeFixedSaid : Prop := gaugeFixedRow.holds Try.pinned (OpenSpec.ofChange gaugeFixedSpec)

/-- ITS FALSE NEIGHBOUR: 'it returns false'. Refute it at one input. -/
def gaugeFixedWrong : ChangeSpec := { name := "gaugeFixed", fn := fun _ => fun
  | [d1, d2] => { results := [.lit (.bool false)], args := [d1, d2] }
  | _ => none }
def GaugeFixedWrongFalsely : Prop := gaugeFixedRow.holds Try.pinned (OpenSpec.ofChange gaugeFixedWrong)

/-- 'yearbooklaw03.GaugeFiner': WHATEVER THE INPUT: true; the input reads as it did. -/
def gaugeFinerSpec : ChangeSpec := { name := "gaugeFiner", fn := fun _ => fun
  | [d1, d2] => { results := [.lit (.bool true)], args := [d1, d2] }
  | _ => none }
def gaugeFinerRow : OpenClaim := { program := "ythkncbfaehgenaa", sum := "dcd59a01b14367e471e7c3e6bd363c518c1e6e579ecd62d3626e78f0906aaf5e", func := "yearbook/yearbooklaw03.GaugeFiner", spec := "gaugeFiner", inPlace := ["math.Float64bits", "math.Float64frombits"], unfollowed := true, recurses := true, apart := false }
def GaugeFinerSaid : Prop := gaugeFinerRow.holds Try.pinned (OpenSpec.ofChange gaugeFinerSpec)

/-- ITS FALSE NEIGHBOUR: 'it returns false'. Refute it at one input. -/
def gaugeFinerWrong : ChangeSpec := { name := "gaugeFiner", fn := fun _ => fun
  | [d1, d2] => { results := [.lit (.bool false)], args := [d1, d2] }
  | _ => none }
def GaugeFinerWrongFalsely : Prop := gaugeFinerRow.holds Try.pinned (OpenSpec.ofChange gaugeFinerWrong)

/-- 'yearbooklaw03.GaugeOrders': WHATEVER THE INPUT: true; the input reads as it did. -/
def gaugeOrdersSpec : ChangeSpec := { name := "gaugeOrders", fn := fun _ => fun
  | [d1, d2] => { results := [.lit (.bool true)], args := [d1, d2] }
  | _ => none }
def gaugeOrdersRow : OpenClaim := { program := "ythkncbfaehgenaa", sum := "dcd59a01b14367e471e7c3e6bd363c518c1e6e579ecd62d3626e78f0906aaf5e", func := "yearbook/yearbooklaw03.GaugeOrders", spec := "gaugeOrders", inPlace := ["math.Float64bits", "math.Float64frombits"], unfollowed := true, recurses := true, apart := false }
def GaugeOrdersSaid : Prop := gaugeOrdersRow.holds Try.pinned (OpenSpec.ofChange gaugeOrdersSpec)

/-- ITS FALSE NEIGHBOUR: 'it returns false'. Refute it at one input. -/
def gaugeOrdersWrong : ChangeSpec := { name := "gaugeOrders", fn := fun _ => fun
  | [d1, d2] => { results := [.lit (.bool false)], args := [d1, d2] }
  | _ => none }
def GaugeOrdersWrongFalsely : Prop := gaugeOrdersRow.holds Try.pinned (OpenSpec.ofChange gaugeOrdersWrong)

/-- 'yearbooklaw03.GaugeRises': WHATEVER THE INPUT: true; the input reads as it did. -/
def gaugeRisesSpec : ChangeSpec := { name := "gaugeRises", fn := fun _ => fun
  | [d1, d2, d3] => { results := [.lit (.bool true)], args := [d1, d2, d3] }
  | _ => none }
def gaugeRisesRow : OpenClaim := { program := "ythkncbfaehgenaa", sum := "dcd59a01b14367e471e7c3e6bd363c518c1e6e579ecd62d3626e78f0906aaf5e", func := "yearbook/yearbooklaw03.GaugeRises", spec := "gaugeRises", inPlace := ["math.Float64bits", "math.Float64frombits"], unfollowed := true, recurses := true, apart := false }
def GaugeRisesSaid : Prop := gaugeRisesRow.holds Try.pinned (OpenSpec.ofChange gaugeRisesSpec)

/-- ITS FALSE NEIGHBOUR: 'it returns false'. Refute it at one input. -/
def gaugeRisesWrong : ChangeSpec := { name := "gaugeRises", fn := fun _ => fun
  | [d1, d2, d3] => { results := [.lit (.bool false)], args := [d1, d2, d3] }
  | _ => none }
def GaugeRisesWrongFalsely : Prop := gaugeRisesRow.holds Try.pinned (OpenSpec.ofChange gaugeRisesWrong)

/-- 'yearbooklaw03.GaugeRows': WHATEVER THE INPUT: true; the input reads as it did. -/
def gaugeRowsSpec : ChangeSpec := { name := "gaugeRows", fn := fun _ => fun
  | [d1, d2] => { results := [.lit (.bool true)], args := [d1, d2] }
  | _ => none }
def gaugeRowsRow : OpenClaim := { program := "ythkncbfaehgenaa", sum := "dcd59a01b14367e471e7c3e6bd363c518c1e6e579ecd62d3626e78f0906aaf5e", func := "yearbook/yearbooklaw03.GaugeRows", spec := "gaugeRows", inPlace := ["math.Float64bits", "math.Float64frombits"], unfollowed := true, recurses := true, apart := false }
def GaugeRowsSaid : Prop := gaugeRowsRow.holds Try.pinned (OpenSpec.ofChange gaugeRowsSpec)

/-- ITS FALSE NEIGHBOUR: 'it returns false'. Refute it at one input. -/
def gaugeRowsWrong : ChangeSpec := { name := "gaugeRows", fn := fun _ => fun
  | [d1, d2] => { results := [.lit (.bool false)], args := [d1, d2] }
  | _ => none }
def GaugeRowsWrongFalsely : Prop := gaugeRowsRow.holds Try.pinned (OpenSpec.ofChange gaugeRowsWrong)

/- THE SECOND FORM. 'bulk': how many values and letters a reading holds, each counted each time it is reached (what is shared counts as often as it is met; a slice's spare places count too). A statement '..UptoSaid' is the law's where the arguments, and the package variables that the reading takes, are together of bulk at most 1048576: NARROWER than '..Said'. Prove '..Said' where nothing that the law and all that it calls make is longer than what came in: it says more and counts as full. Else prove '..UptoSaid'. A law counts once. -/
mutual
def uptoBulk {H : Type} : DataW H → Nat
  | .lit (.string bytes) => bytes.length + 1
  | .lit _ => 1
  | .nil => 1
  | .ptr d => uptoBulk d + 1
  | .slice elems spare => uptoBulkAll elems + uptoBulkAll spare + 1
  | .agg parts => uptoBulkAll parts + 1
  | .iface _ d => uptoBulk d + 1
  | .map entries => uptoBulkEntries entries + 1
  | .held _ => 1
def uptoBulkAll {H : Type} : List (DataW H) → Nat
  | [] => 0
  | d :: r => uptoBulk d + uptoBulkAll r
def uptoBulkEntries {H : Type} : List (Lit × DataW H) → Nat
  | [] => 0
  | x :: r => uptoBulkEntry x + uptoBulkEntries r
def uptoBulkEntry {H : Type} : Lit × DataW H → Nat
  | (.string bytes, d) => bytes.length + uptoBulk d + 1
  | (_, d) => uptoBulk d + 1
 end
def uptoSmall : (H : Type) → List (DataW H) → Bool := fun _ ds => decide (uptoBulkAll ds ≤ 1048576)
def OpenSpec.upto (s : _root_.Go.ChangeSpec) : _root_.Go.OpenSpec := { _root_.Go.OpenSpec.ofChange s with cond := some uptoSmall }

/-- 'yearbooklaw03.GaugeFloats', WHERE WHAT IT READS IS OF BULK AT MOST 1048576: true; the input reads as it did. -/
def gaugeFloatsUptoRow : OpenClaim := { program := "ythkncbfaehgenaa", sum := "dcd59a01b14367e471e7c3e6bd363c518c1e6e579ecd62d3626e78f0906aaf5e", func := "yearbook/yearbooklaw03.GaugeFloats", spec := "gaugeFloats", inPlace := ["math.Float64bits"], unfollowed := true, recurses := true, apart := false, narrowed := true }
def GaugeFloatsUptoSaid : Prop := gaugeFloatsUptoRow.holds Try.pinned (OpenSpec.upto gaugeFloatsSpec)

/-- 'yearbooklaw03.GaugeBack', WHERE WHAT IT READS IS OF BULK AT MOST 1048576: true; the input reads as it did. -/
def gaugeBackUptoRow : OpenClaim := { program := "ythkncbfaehgenaa", sum := "dcd59a01b14367e471e7c3e6bd363c518c1e6e579ecd62d3626e78f0906aaf5e", func := "yearbook/yearbooklaw03.GaugeBack", spec := "gaugeBack", inPlace := ["math.Float64bits"], unfollowed := true, recurses := true, apart := false, narrowed := true }
def GaugeBackUptoSaid : Prop := gaugeBackUptoRow.holds Try.pinned (OpenSpec.upto gaugeBackSpec)

/-- 'yearbooklaw03.GaugeMiddle', WHERE WHAT IT READS IS OF BULK AT MOST 1048576: true; the input reads as it did. -/
def gaugeMiddleUptoRow : OpenClaim := { program := "ythkncbfaehgenaa", sum := "dcd59a01b14367e471e7c3e6bd363c518c1e6e579ecd62d3626e78f0906aaf5e", func := "yearbook/yearbooklaw03.GaugeMiddle", spec := "gaugeMiddle", inPlace := ["math.Float64bits"], unfollowed := true, recurses := true, apart := false, narrowed := true }
def GaugeMiddleUptoSaid : Prop := gaugeMiddleUptoRow.holds Try.pinned (OpenSpec.upto gaugeMiddleSpec)

/-- 'yearbooklaw03.GaugeFixed', WHERE WHAT IT READS IS OF BULK AT MOST 1048576: true; the input reads as it did. -/
def gaugeFixedUptoRow : OpenClaim := { program := "ythkncbfaehgenaa", sum := "dcd59a01b14367e471e7c3e6bd363c518c1e6e579ecd62d3626e78f0906aaf5e", func := "yearbook/yearbooklaw03.GaugeFixed", spec := "gaugeFixed", inPlace := ["math.Float64bits", "math.Float64frombits"], unfollowed := true, recurses := true, apart := false, narrowed := true }
def GaugeFixedUptoSaid : Prop := gaugeFixedUptoRow.holds Try.pinned (OpenSpec.upto gaugeFixedSpec)

/-- 'yearbooklaw03.GaugeFiner', WHERE WHAT IT READS IS OF BULK AT MOST 1048576: true; the input reads as it did. -/
def gaugeFinerUptoRow : OpenClaim := { program := "ythkncbfaehgenaa", sum := "dcd59a01b14367e471e7c3e6bd363c518c1e6e579ecd62d3626e78f0906aaf5e", func := "yearbook/yearbooklaw03.GaugeFiner", spec := "gaugeFiner", inPlace := ["math.Float64bits", "math.Float64frombits"], unfollowed := true, recurses := true, apart := false, narrowed := true }
def GaugeFinerUptoSaid : Prop := gaugeFinerUptoRow.holds Try.pinned (OpenSpec.upto gaugeFinerSpec)

/-- 'yearbooklaw03.GaugeOrders', WHERE WHAT IT READS IS OF BULK AT MOST 1048576: true; the input reads as it did. -/
def gaugeOrdersUptoRow : OpenClaim := { program := "ythkncbfaehgenaa", sum := "dcd59a01b14367e471e7c3e6bd363c518c1e6e579ecd62d3626e78f0906aaf5e", func := "yearbook/yearbooklaw03.GaugeOrders", spec := "gaugeOrders", inPlace := ["math.Float64bits", "math.Float64frombits"], unfollowed := true, recurses := true, apart := false, narrowed := true }
def GaugeOrdersUptoSaid : Prop := gaugeOrdersUptoRow.holds Try.pinned (OpenSpec.upto gaugeOrdersSpec)

/-- 'yearbooklaw03.GaugeRises', WHERE WHAT IT READS IS OF BULK AT MOST 1048576: true; the input reads as it did. -/
def gaugeRisesUptoRow : OpenClaim := { program := "ythkncbfaehgenaa", sum := "dcd59a01b14367e471e7c3e6bd363c518c1e6e579ecd62d3626e78f0906aaf5e", func := "yearbook/yearbooklaw03.GaugeRises", spec := "gaugeRises", inPlace := ["math.Float64bits", "math.Float64frombits"], unfollowed := true, recurses := true, apart := false, narrowed := true }
def GaugeRisesUptoSaid : Prop := gaugeRisesUptoRow.holds Try.pinned (OpenSpec.upto gaugeRisesSpec)

/-- 'yearbooklaw03.GaugeRows', WHERE WHAT IT READS IS OF BULK AT MOST 1048576: true; the input reads as it did. -/
def gaugeRowsUptoRow : OpenClaim := { program := "ythkncbfaehgenaa", sum := "dcd59a01b14367e471e7c3e6bd363c518c1e6e579ecd62d3626e78f0906aaf5e", func := "yearbook/yearbooklaw03.GaugeRows", spec := "gaugeRows", inPlace := ["math.Float64bits", "math.Float64frombits"], unfollowed := true, recurses := true, apart := false, narrowed := true }
def GaugeRowsUptoSaid : Prop := gaugeRowsUptoRow.holds Try.pinned (OpenSpec.upto gaugeRowsSpec)

end Rows
end Go.Proofs.Ythkncbfaehgenaa
