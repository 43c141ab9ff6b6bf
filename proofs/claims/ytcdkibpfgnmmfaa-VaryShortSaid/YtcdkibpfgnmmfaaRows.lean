/-
  No cell of these rows narrows 'for every input' (looked for: loops, veiled, ifaces, maps, wideKeys, modest, calm, conditions, laid).
  DERIVED. THE GIVEN ROWS OF THIS SEAT. 7 by the template 'for every input the law returns true; each argument reads behind the call as it read before'; 0 by the template 'total and deterministic' (their statements: YtcdkibpfgnmmfaaTotals.lean).
  GIVEN WITH THE SEED: the statements are not yours to turn. If you find one false, say at which input.
  Laid BY PROGRAM, IN A SANDBOX (cutbox-rows.mjs): the forced cells as the released guide's own fill.sh prints them over the translation b3c44baf0880c951… (all of the seat's roots in one cut). By AI agents, Wed Nov 11 2026. No macro, syntax, notation, axiom, sorry.
-/
import Derived.Test.YtcdkibpfgnmmfaaChecked
import GoSem.Claim
import GoSem.ClaimJoined
import GoSem.ClaimMapViews
import Derived.JoinedTies
import Derived.KernelRfl
namespace Go.Proofs.Ytcdkibpfgnmmfaa
/- THE CELL 'sum', in the pinned program and in every row, IS THE sha256 OF THE DUMP (.gsa) THAT YtcdkibpfgnmmfaaProg.lean LOADS. Nothing in Lean hashes anything: it is a label: what it is worth is what the hold of that sum in a sandbox is worth. -/
noncomputable def Try.pinned : Pinned := { name := "ytcdkibpfgnmmfaa", sum := "b3c44baf0880c9517d62c5f8821fd9ae354e1ac61ce6da6a675638cf8d959993", checked := Try.checked }
namespace Rows
def none {H : Type} : Left H := { results := [], args := [] }

/-- 'yearbooklaw02.VaryShort': WHATEVER THE INPUT: true; the input reads as it did. -/
def varyShortSpec : ChangeSpec := { name := "varyShort", fn := fun _ => fun
  | [d] => { results := [.lit (.bool true)], args := [d] }
  | _ => none }
def varyShortRow : OpenClaim := { program := "ytcdkibpfgnmmfaa", sum := "b3c44baf0880c9517d62c5f8821fd9ae354e1ac61ce6da6a675638cf8d959993", func := "yearbook/yearbooklaw02.VaryShort", spec := "varyShort", unfollowed := true, recurses := true, apart := false }
def VaryShortSaid : Prop := varyShortRow.holds Try.pinned (OpenSpec.ofChange varyShortSpec)

/-- ITS FALSE NEIGHBOUR: 'it returns false'. Refute it at one input. -/
def varyShortWrong : ChangeSpec := { name := "varyShort", fn := fun _ => fun
  | [d] => { results := [.lit (.bool false)], args := [d] }
  | _ => none }
def VaryShortWrongFalsely : Prop := varyShortRow.holds Try.pinned (OpenSpec.ofChange varyShortWrong)

/-- 'yearbooklaw02.VaryGets': WHATEVER THE INPUT: true; the input reads as it did. -/
def varyGetsSpec : ChangeSpec := { name := "varyGets", fn := fun _ => fun
  | [d1, d2] => { results := [.lit (.bool true)], args := [d1, d2] }
  | _ => none }
def varyGetsRow : OpenClaim := { program := "ytcdkibpfgnmmfaa", sum := "b3c44baf0880c9517d62c5f8821fd9ae354e1ac61ce6da6a675638cf8d959993", func := "yearbook/yearbooklaw02.VaryGets", spec := "varyGets", unfollowed := true, recurses := true, apart := false }
def VaryGetsSaid : Prop := varyGetsRow.holds Try.pinned (OpenSpec.ofChange varyGetsSpec)

/-- ITS FALSE NEIGHBOUR: 'it returns false'. Refute it at one input. -/
def varyGetsWrong : ChangeSpec := { name := "varyGets", fn := fun _ => fun
  | [d1, d2] => { results := [.lit (.bool false)], args := [d1, d2] }
  | _ => none }
def VaryGetsWrongFalsely : Prop := varyGetsRow.holds Try.pinned (OpenSpec.ofChange varyGetsWrong)

/-- 'yearbooklaw02.VaryPuts': WHATEVER THE INPUT: true; the input reads as it did. -/
def varyPutsSpec : ChangeSpec := { name := "varyPuts", fn := fun _ => fun
  | [d1, d2, d3] => { results := [.lit (.bool true)], args := [d1, d2, d3] }
  | _ => none }
def varyPutsRow : OpenClaim := { program := "ytcdkibpfgnmmfaa", sum := "b3c44baf0880c9517d62c5f8821fd9ae354e1ac61ce6da6a675638cf8d959993", func := "yearbook/yearbooklaw02.VaryPuts", spec := "varyPuts", unfollowed := true, recurses := true, apart := false }
def VaryPutsSaid : Prop := varyPutsRow.holds Try.pinned (OpenSpec.ofChange varyPutsSpec)

/-- ITS FALSE NEIGHBOUR: 'it returns false'. Refute it at one input. -/
def varyPutsWrong : ChangeSpec := { name := "varyPuts", fn := fun _ => fun
  | [d1, d2, d3] => { results := [.lit (.bool false)], args := [d1, d2, d3] }
  | _ => none }
def VaryPutsWrongFalsely : Prop := varyPutsRow.holds Try.pinned (OpenSpec.ofChange varyPutsWrong)

/-- 'yearbooklaw02.VaryRows': WHATEVER THE INPUT: true; the input reads as it did. -/
def varyRowsSpec : ChangeSpec := { name := "varyRows", fn := fun _ => fun
  | [d1, d2, d3] => { results := [.lit (.bool true)], args := [d1, d2, d3] }
  | _ => none }
def varyRowsRow : OpenClaim := { program := "ytcdkibpfgnmmfaa", sum := "b3c44baf0880c9517d62c5f8821fd9ae354e1ac61ce6da6a675638cf8d959993", func := "yearbook/yearbooklaw02.VaryRows", spec := "varyRows", unfollowed := true, recurses := true, apart := false }
def VaryRowsSaid : Prop := varyRowsRow.holds Try.pinned (OpenSpec.ofChange varyRowsSpec)

/-- ITS FALSE NEIGHBOUR: 'it returns false'. Refute it at one input. -/
def varyRowsWrong : ChangeSpec := { name := "varyRows", fn := fun _ => fun
  | [d1, d2, d3] => { results := [.lit (.bool false)], args := [d1, d2, d3] }
  | _ => none }
def VaryRowsWrongFalsely : Prop := varyRowsRow.holds Try.pinned (OpenSpec.ofChange varyRowsWrong)

/-- 'yearbooklaw02.VaryList': WHATEVER THE INPUT: true; the input reads as it did. -/
def varyListSpec : ChangeSpec := { name := "varyList", fn := fun _ => fun
  | [d1, d2, d3] => { results := [.lit (.bool true)], args := [d1, d2, d3] }
  | _ => none }
def varyListRow : OpenClaim := { program := "ytcdkibpfgnmmfaa", sum := "b3c44baf0880c9517d62c5f8821fd9ae354e1ac61ce6da6a675638cf8d959993", func := "yearbook/yearbooklaw02.VaryList", spec := "varyList", unfollowed := true, recurses := true, apart := false }
def VaryListSaid : Prop := varyListRow.holds Try.pinned (OpenSpec.ofChange varyListSpec)

/-- ITS FALSE NEIGHBOUR: 'it returns false'. Refute it at one input. -/
def varyListWrong : ChangeSpec := { name := "varyList", fn := fun _ => fun
  | [d1, d2, d3] => { results := [.lit (.bool false)], args := [d1, d2, d3] }
  | _ => none }
def VaryListWrongFalsely : Prop := varyListRow.holds Try.pinned (OpenSpec.ofChange varyListWrong)

/-- 'yearbooklaw02.VaryAlone': WHATEVER THE INPUT: true; the input reads as it did. -/
def varyAloneSpec : ChangeSpec := { name := "varyAlone", fn := fun _ => fun
  | [d1, d2, d3] => { results := [.lit (.bool true)], args := [d1, d2, d3] }
  | _ => none }
def varyAloneRow : OpenClaim := { program := "ytcdkibpfgnmmfaa", sum := "b3c44baf0880c9517d62c5f8821fd9ae354e1ac61ce6da6a675638cf8d959993", func := "yearbook/yearbooklaw02.VaryAlone", spec := "varyAlone", unfollowed := true, recurses := true, apart := false }
def VaryAloneSaid : Prop := varyAloneRow.holds Try.pinned (OpenSpec.ofChange varyAloneSpec)

/-- ITS FALSE NEIGHBOUR: 'it returns false'. Refute it at one input. -/
def varyAloneWrong : ChangeSpec := { name := "varyAlone", fn := fun _ => fun
  | [d1, d2, d3] => { results := [.lit (.bool false)], args := [d1, d2, d3] }
  | _ => none }
def VaryAloneWrongFalsely : Prop := varyAloneRow.holds Try.pinned (OpenSpec.ofChange varyAloneWrong)

/-- 'yearbooklaw02.VaryBack': WHATEVER THE INPUT: true; the input reads as it did. -/
def varyBackSpec : ChangeSpec := { name := "varyBack", fn := fun _ => fun
  | [d1, d2, d3] => { results := [.lit (.bool true)], args := [d1, d2, d3] }
  | _ => none }
def varyBackRow : OpenClaim := { program := "ytcdkibpfgnmmfaa", sum := "b3c44baf0880c9517d62c5f8821fd9ae354e1ac61ce6da6a675638cf8d959993", func := "yearbook/yearbooklaw02.VaryBack", spec := "varyBack", unfollowed := true, recurses := true, apart := false }
def VaryBackSaid : Prop := varyBackRow.holds Try.pinned (OpenSpec.ofChange varyBackSpec)

/-- ITS FALSE NEIGHBOUR: 'it returns false'. Refute it at one input. -/
def varyBackWrong : ChangeSpec := { name := "varyBack", fn := fun _ => fun
  | [d1, d2, d3] => { results := [.lit (.bool false)], args := [d1, d2, d3] }
  | _ => none }
def VaryBackWrongFalsely : Prop := varyBackRow.holds Try.pinned (OpenSpec.ofChange varyBackWrong)

/- THE SECOND FORM. 'bulk': how many values and letters a reading holds, each counted each time it is reached (what is shared counts as often as it is met; a slice's spare places count too). A statement '..UptoSaid' is the law's where the arguments, and the package variables that the reading takes, are together of bulk at most 1048576: NARROWER than '..Said'. Prove '..Said' where nothing that the law and all that it calls make is longer than what came in: it says more and counts as full. Else prove '..UptoSaid'. A law counts once. -/
mutual
def uptoBulk {H : Type} : DataW H → Nat
  | .lit (.string bytes) => bytes.length + 1
  | .lit _ => 1
  | .nil => 1
  | .ptr d => uptoBulk d + 1
  | .slice elems spare => uptoBulkAll elems + uptoBulkAll spare + 1
  | .agg parts => uptoBulkAll parts + 1
  | .iface _ d => uptoBulk d + 1
  | .map entries => uptoBulkEntries entries + 1
  | .held _ => 1
def uptoBulkAll {H : Type} : List (DataW H) → Nat
  | [] => 0
  | d :: r => uptoBulk d + uptoBulkAll r
def uptoBulkEntries {H : Type} : List (Lit × DataW H) → Nat
  | [] => 0
  | x :: r => uptoBulkEntry x + uptoBulkEntries r
def uptoBulkEntry {H : Type} : Lit × DataW H → Nat
  | (.string bytes, d) => bytes.length + uptoBulk d + 1
  | (_, d) => uptoBulk d + 1
 end
def uptoSmall : (H : Type) → List (DataW H) → Bool := fun _ ds => decide (uptoBulkAll ds ≤ 1048576)
def OpenSpec.upto (s : _root_.Go.ChangeSpec) : _root_.Go.OpenSpec := { _root_.Go.OpenSpec.ofChange s with cond := some uptoSmall }

/-- 'yearbooklaw02.VaryShort', WHERE WHAT IT READS IS OF BULK AT MOST 1048576: true; the input reads as it did. -/
def varyShortUptoRow : OpenClaim := { program := "ytcdkibpfgnmmfaa", sum := "b3c44baf0880c9517d62c5f8821fd9ae354e1ac61ce6da6a675638cf8d959993", func := "yearbook/yearbooklaw02.VaryShort", spec := "varyShort", unfollowed := true, recurses := true, apart := false, narrowed := true }
def VaryShortUptoSaid : Prop := varyShortUptoRow.holds Try.pinned (OpenSpec.upto varyShortSpec)

/-- 'yearbooklaw02.VaryGets', WHERE WHAT IT READS IS OF BULK AT MOST 1048576: true; the input reads as it did. -/
def varyGetsUptoRow : OpenClaim := { program := "ytcdkibpfgnmmfaa", sum := "b3c44baf0880c9517d62c5f8821fd9ae354e1ac61ce6da6a675638cf8d959993", func := "yearbook/yearbooklaw02.VaryGets", spec := "varyGets", unfollowed := true, recurses := true, apart := false, narrowed := true }
def VaryGetsUptoSaid : Prop := varyGetsUptoRow.holds Try.pinned (OpenSpec.upto varyGetsSpec)

/-- 'yearbooklaw02.VaryPuts', WHERE WHAT IT READS IS OF BULK AT MOST 1048576: true; the input reads as it did. -/
def varyPutsUptoRow : OpenClaim := { program := "ytcdkibpfgnmmfaa", sum := "b3c44baf0880c9517d62c5f8821fd9ae354e1ac61ce6da6a675638cf8d959993", func := "yearbook/yearbooklaw02.VaryPuts", spec := "varyPuts", unfollowed := true, recurses := true, apart := false, narrowed := true }
def VaryPutsUptoSaid : Prop := varyPutsUptoRow.holds Try.pinned (OpenSpec.upto varyPutsSpec)

/-- 'yearbooklaw02.VaryRows', WHERE WHAT IT READS IS OF BULK AT MOST 1048576: true; the input reads as it did. -/
def varyRowsUptoRow : OpenClaim := { program := "ytcdkibpfgnmmfaa", sum := "b3c44baf0880c9517d62c5f8821fd9ae354e1ac61ce6da6a675638cf8d959993", func := "yearbook/yearbooklaw02.VaryRows", spec := "varyRows", unfollowed := true, recurses := true, apart := false, narrowed := true }
def VaryRowsUptoSaid : Prop := varyRowsUptoRow.holds Try.pinned (OpenSpec.upto varyRowsSpec)

/-- 'yearbooklaw02.VaryList', WHERE WHAT IT READS IS OF BULK AT MOST 1048576: true; the input reads as it did. -/
def varyListUptoRow : OpenClaim := { program := "ytcdkibpfgnmmfaa", sum := "b3c44baf0880c9517d62c5f8821fd9ae354e1ac61ce6da6a675638cf8d959993", func := "yearbook/yearbooklaw02.VaryList", spec := "varyList", unfollowed := true, recurses := true, apart := false, narrowed := true }
def VaryListUptoSaid : Prop := varyListUptoRow.holds Try.pinned (OpenSpec.upto varyListSpec)

/-- 'yearbooklaw02.VaryAlone', WHERE WHAT IT READS IS OF BULK AT MOST 1048576: true; the input reads as it did. -/
def varyAloneUptoRow : OpenClaim := { program := "ytcdkibpfgnmmfaa", sum := "b3c44baf0880c9517d62c5f8821fd9ae354e1ac61ce6da6a675638cf8d959993", func := "yearbook/yearbooklaw02.VaryAlone", spec := "varyAlone", unfollowed := true, recurses := true, apart := false, narrowed := true }
def VaryAloneUptoSaid : Prop := varyAloneUptoRow.holds Try.pinned (OpenSpec.upto varyAloneSpec)

/-- 'yearbooklaw02.VaryBack', WHERE WHAT IT READS IS OF BULK AT MOST 1048576: true; the input reads as it did. -/
def varyBackUptoRow : OpenClaim := { program := "ytcdkibpfgnmmfaa", sum := "b3c44baf0880c9517d62c5f8821fd9ae354e1ac61ce6da6a675638cf8d959993", func := "yearbook/yearbooklaw02.VaryBack", spec := "varyBack", unfollowed := true, recurses := true, apart := false, narrowed := true }
def VaryBackUptoSaid : Prop := varyBackUptoRow.holds Try.pinned (OpenSpec.upto varyBackSpec)

end Rows
end Go.Proofs.Ytcdkibpfgnmmfaa
