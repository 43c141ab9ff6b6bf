/-
  No cell of these rows narrows 'for every input' (looked for: loops, veiled, ifaces, maps, wideKeys, modest, calm, conditions, laid).
  DERIVED. THE GIVEN ROWS OF THIS SEAT. 7 by the template 'for every input the law returns true; each argument reads behind the call as it read before'; 0 by the template 'total and deterministic' (their statements: YtgdnpmjmkcccoaaTotals.lean).
  GIVEN WITH THE SEED: the statements are not yours to turn. If you find one false, say at which input.
  Laid BY PROGRAM, IN A SANDBOX (cutbox-rows.mjs): the forced cells as the released guide's own fill.sh prints them over the translation 9225b2895d0d6780… (all of the seat's roots in one cut). By AI agents, Wed Nov 11 2026. No macro, syntax, notation, axiom, sorry.
-/
import Derived.Test.YtgdnpmjmkcccoaaChecked
import GoSem.Claim
import GoSem.ClaimJoined
import GoSem.ClaimMapViews
import Derived.JoinedTies
import Derived.KernelRfl
namespace Go.Proofs.Ytgdnpmjmkcccoaa
/- THE CELL 'sum', in the pinned program and in every row, IS THE sha256 OF THE DUMP (.gsa) THAT YtgdnpmjmkcccoaaProg.lean LOADS. Nothing in Lean hashes anything: it is a label: what it is worth is what the hold of that sum in a sandbox is worth. -/
noncomputable def Try.pinned : Pinned := { name := "ytgdnpmjmkcccoaa", sum := "9225b2895d0d6780fab49b3f766bce3bb430d5781cf1b45487f3e7257b3c7e74", checked := Try.checked }
namespace Rows
def none {H : Type} : Left H := { results := [], args := [] }

/-- 'yearbooklaw22.ManifestTells': WHATEVER THE INPUT: true; the input reads as it did. -/
def manifestTellsSpec : ChangeSpec := { name := "manifestTells", fn := fun _ => fun
  | [d1, d2] => { results := [.lit (.bool true)], args := [d1, d2] }
  | _ => none }
def manifestTellsRow : OpenClaim := { program := "ytgdnpmjmkcccoaa", sum := "9225b2895d0d6780fab49b3f766bce3bb430d5781cf1b45487f3e7257b3c7e74", func := "yearbook/yearbooklaw22.ManifestTells", spec := "manifestTells", unfollowed := true, recurses := true, apart := false }
def ManifestTellsSaid : Prop := manifestTellsRow.holds Try.pinned (OpenSpec.ofChange manifestTellsSpec)

/-- ITS FALSE NEIGHBOUR: 'it returns false'. Refute it at one input. -/
def manifestTellsWrong : ChangeSpec := { name := "manifestTells", fn := fun _ => fun
  | [d1, d2] => { results := [.lit (.bool false)], args := [d1, d2] }
  | _ => none }
def ManifestTellsWrongFalsely : Prop := manifestTellsRow.holds Try.pinned (OpenSpec.ofChange manifestTellsWrong)

/-- 'yearbooklaw22.ManifestGets': WHATEVER THE INPUT: true; the input reads as it did. -/
def manifestGetsSpec : ChangeSpec := { name := "manifestGets", fn := fun _ => fun
  | [d] => { results := [.lit (.bool true)], args := [d] }
  | _ => none }
def manifestGetsRow : OpenClaim := { program := "ytgdnpmjmkcccoaa", sum := "9225b2895d0d6780fab49b3f766bce3bb430d5781cf1b45487f3e7257b3c7e74", func := "yearbook/yearbooklaw22.ManifestGets", spec := "manifestGets", unfollowed := true, recurses := true, apart := false }
def ManifestGetsSaid : Prop := manifestGetsRow.holds Try.pinned (OpenSpec.ofChange manifestGetsSpec)

/-- ITS FALSE NEIGHBOUR: 'it returns false'. Refute it at one input. -/
def manifestGetsWrong : ChangeSpec := { name := "manifestGets", fn := fun _ => fun
  | [d] => { results := [.lit (.bool false)], args := [d] }
  | _ => none }
def ManifestGetsWrongFalsely : Prop := manifestGetsRow.holds Try.pinned (OpenSpec.ofChange manifestGetsWrong)

/-- 'yearbooklaw22.ManifestAlone': WHATEVER THE INPUT: true; the input reads as it did. -/
def manifestAloneSpec : ChangeSpec := { name := "manifestAlone", fn := fun _ => fun
  | [d1, d2] => { results := [.lit (.bool true)], args := [d1, d2] }
  | _ => none }
def manifestAloneRow : OpenClaim := { program := "ytgdnpmjmkcccoaa", sum := "9225b2895d0d6780fab49b3f766bce3bb430d5781cf1b45487f3e7257b3c7e74", func := "yearbook/yearbooklaw22.ManifestAlone", spec := "manifestAlone", unfollowed := true, recurses := true, apart := false }
def ManifestAloneSaid : Prop := manifestAloneRow.holds Try.pinned (OpenSpec.ofChange manifestAloneSpec)

/-- ITS FALSE NEIGHBOUR: 'it returns false'. Refute it at one input. -/
def manifestAloneWrong : ChangeSpec := { name := "manifestAlone", fn := fun _ => fun
  | [d1, d2] => { results := [.lit (.bool false)], args := [d1, d2] }
  | _ => none }
def ManifestAloneWrongFalsely : Prop := manifestAloneRow.holds Try.pinned (OpenSpec.ofChange manifestAloneWrong)

/-- 'yearbooklaw22.ManifestBack': WHATEVER THE INPUT: true; the input reads as it did. -/
def manifestBackSpec : ChangeSpec := { name := "manifestBack", fn := fun _ => fun
  | [d1, d2] => { results := [.lit (.bool true)], args := [d1, d2] }
  | _ => none }
def manifestBackRow : OpenClaim := { program := "ytgdnpmjmkcccoaa", sum := "9225b2895d0d6780fab49b3f766bce3bb430d5781cf1b45487f3e7257b3c7e74", func := "yearbook/yearbooklaw22.ManifestBack", spec := "manifestBack", unfollowed := true, recurses := true, apart := false }
def ManifestBackSaid : Prop := manifestBackRow.holds Try.pinned (OpenSpec.ofChange manifestBackSpec)

/-- ITS FALSE NEIGHBOUR: 'it returns false'. Refute it at one input. -/
def manifestBackWrong : ChangeSpec := { name := "manifestBack", fn := fun _ => fun
  | [d1, d2] => { results := [.lit (.bool false)], args := [d1, d2] }
  | _ => none }
def ManifestBackWrongFalsely : Prop := manifestBackRow.holds Try.pinned (OpenSpec.ofChange manifestBackWrong)

/-- 'yearbooklaw21.IndexPages': WHATEVER THE INPUT: true; the input reads as it did. -/
def indexPagesSpec : ChangeSpec := { name := "indexPages", fn := fun _ => fun
  | [d1, d2] => { results := [.lit (.bool true)], args := [d1, d2] }
  | _ => none }
def indexPagesRow : OpenClaim := { program := "ytgdnpmjmkcccoaa", sum := "9225b2895d0d6780fab49b3f766bce3bb430d5781cf1b45487f3e7257b3c7e74", func := "yearbook/yearbooklaw21.IndexPages", spec := "indexPages", unfollowed := true, recurses := true, apart := false }
def IndexPagesSaid : Prop := indexPagesRow.holds Try.pinned (OpenSpec.ofChange indexPagesSpec)

/-- ITS FALSE NEIGHBOUR: 'it returns false'. Refute it at one input. -/
def indexPagesWrong : ChangeSpec := { name := "indexPages", fn := fun _ => fun
  | [d1, d2] => { results := [.lit (.bool false)], args := [d1, d2] }
  | _ => none }
def IndexPagesWrongFalsely : Prop := indexPagesRow.holds Try.pinned (OpenSpec.ofChange indexPagesWrong)

/-- 'yearbooklaw21.IndexBack': WHATEVER THE INPUT: true; the input reads as it did. -/
def indexBackSpec : ChangeSpec := { name := "indexBack", fn := fun _ => fun
  | [d1, d2, d3] => { results := [.lit (.bool true)], args := [d1, d2, d3] }
  | _ => none }
def indexBackRow : OpenClaim := { program := "ytgdnpmjmkcccoaa", sum := "9225b2895d0d6780fab49b3f766bce3bb430d5781cf1b45487f3e7257b3c7e74", func := "yearbook/yearbooklaw21.IndexBack", spec := "indexBack", unfollowed := true, recurses := true, apart := false }
def IndexBackSaid : Prop := indexBackRow.holds Try.pinned (OpenSpec.ofChange indexBackSpec)

/-- ITS FALSE NEIGHBOUR: 'it returns false'. Refute it at one input. -/
def indexBackWrong : ChangeSpec := { name := "indexBack", fn := fun _ => fun
  | [d1, d2, d3] => { results := [.lit (.bool false)], args := [d1, d2, d3] }
  | _ => none }
def IndexBackWrongFalsely : Prop := indexBackRow.holds Try.pinned (OpenSpec.ofChange indexBackWrong)

/-- 'yearbooklaw22.ManifestPages': WHATEVER THE INPUT: true; the input reads as it did. -/
def manifestPagesSpec : ChangeSpec := { name := "manifestPages", fn := fun _ => fun
  | [d1, d2] => { results := [.lit (.bool true)], args := [d1, d2] }
  | _ => none }
def manifestPagesRow : OpenClaim := { program := "ytgdnpmjmkcccoaa", sum := "9225b2895d0d6780fab49b3f766bce3bb430d5781cf1b45487f3e7257b3c7e74", func := "yearbook/yearbooklaw22.ManifestPages", spec := "manifestPages", unfollowed := true, recurses := true, apart := false }
def ManifestPagesSaid : Prop := manifestPagesRow.holds Try.pinned (OpenSpec.ofChange manifestPagesSpec)

/-- ITS FALSE NEIGHBOUR: 'it returns false'. Refute it at one input. -/
def manifestPagesWrong : ChangeSpec := { name := "manifestPages", fn := fun _ => fun
  | [d1, d2] => { results := [.lit (.bool false)], args := [d1, d2] }
  | _ => none }
def ManifestPagesWrongFalsely : Prop := manifestPagesRow.holds Try.pinned (OpenSpec.ofChange manifestPagesWrong)

/- THE SECOND FORM. 'bulk': how many values and letters a reading holds, each counted each time it is reached (what is shared counts as often as it is met; a slice's spare places count too). A statement '..UptoSaid' is the law's where the arguments, and the package variables that the reading takes, are together of bulk at most 1048576: NARROWER than '..Said'. Prove '..Said' where nothing that the law and all that it calls make is longer than what came in: it says more and counts as full. Else prove '..UptoSaid'. A law counts once. -/
mutual
def uptoBulk {H : Type} : DataW H → Nat
  | .lit (.string bytes) => bytes.length + 1
  | .lit _ => 1
  | .nil => 1
  | .ptr d => uptoBulk d + 1
  | .slice elems spare => uptoBulkAll elems + uptoBulkAll spare + 1
  | .agg parts => uptoBulkAll parts + 1
  | .iface _ d => uptoBulk d + 1
  | .map entries => uptoBulkEntries entries + 1
  | .held _ => 1
def uptoBulkAll {H : Type} : List (DataW H) → Nat
  | [] => 0
  | d :: r => uptoBulk d + uptoBulkAll r
def uptoBulkEntries {H : Type} : List (Lit × DataW H) → Nat
  | [] => 0
  | x :: r => uptoBulkEntry x + uptoBulkEntries r
def uptoBulkEntry {H : Type} : Lit × DataW H → Nat
  | (.string bytes, d) => bytes.length + uptoBulk d + 1
  | (_, d) => uptoBulk d + 1
 end
def uptoSmall : (H : Type) → List (DataW H) → Bool := fun _ ds => decide (uptoBulkAll ds ≤ 1048576)
def OpenSpec.upto (s : _root_.Go.ChangeSpec) : _root_.Go.OpenSpec := { _root_.Go.OpenSpec.ofChange s with cond := some uptoSmall }

/-- 'yearbooklaw22.ManifestTells', WHERE WHAT IT READS IS OF BULK AT MOST 1048576: true; the input reads as it did. -/
def manifestTellsUptoRow : OpenClaim := { program := "ytgdnpmjmkcccoaa", sum := "9225b2895d0d6780fab49b3f766bce3bb430d5781cf1b45487f3e7257b3c7e74", func := "yearbook/yearbooklaw22.ManifestTells", spec := "manifestTells", unfollowed := true, recurses := true, apart := false, narrowed := true }
def ManifestTellsUptoSaid : Prop := manifestTellsUptoRow.holds Try.pinned (OpenSpec.upto manifestTellsSpec)

/-- 'yearbooklaw22.ManifestGets', WHERE WHAT IT READS IS OF BULK AT MOST 1048576: true; the input reads as it did. -/
def manifestGetsUptoRow : OpenClaim := { program := "ytgdnpmjmkcccoaa", sum := "9225b2895d0d6780fab49b3f766bce3bb430d5781cf1b45487f3e7257b3c7e74", func := "yearbook/yearbooklaw22.ManifestGets", spec := "manifestGets", unfollowed := true, recurses := true, apart := false, narrowed := true }
def ManifestGetsUptoSaid : Prop := manifestGetsUptoRow.holds Try.pinned (OpenSpec.upto manifestGetsSpec)

/-- 'yearbooklaw22.ManifestAlone', WHERE WHAT IT READS IS OF BULK AT MOST 1048576: true; the input reads as it did. -/
def manifestAloneUptoRow : OpenClaim := { program := "ytgdnpmjmkcccoaa", sum := "9225b2895d0d6780fab49b3f766bce3bb430d5781cf1b45487f3e7257b3c7e74", func := "yearbook/yearbooklaw22.ManifestAlone", spec := "manifestAlone", unfollowed := true, recurses := true, apart := false, narrowed := true }
def ManifestAloneUptoSaid : Prop := manifestAloneUptoRow.holds Try.pinned (OpenSpec.upto manifestAloneSpec)

/-- 'yearbooklaw22.ManifestBack', WHERE WHAT IT READS IS OF BULK AT MOST 1048576: true; the input reads as it did. -/
def manifestBackUptoRow : OpenClaim := { program := "ytgdnpmjmkcccoaa", sum := "9225b2895d0d6780fab49b3f766bce3bb430d5781cf1b45487f3e7257b3c7e74", func := "yearbook/yearbooklaw22.ManifestBack", spec := "manifestBack", unfollowed := true, recurses := true, apart := false, narrowed := true }
def ManifestBackUptoSaid : Prop := manifestBackUptoRow.holds Try.pinned (OpenSpec.upto manifestBackSpec)

/-- 'yearbooklaw21.IndexPages', WHERE WHAT IT READS IS OF BULK AT MOST 1048576: true; the input reads as it did. -/
def indexPagesUptoRow : OpenClaim := { program := "ytgdnpmjmkcccoaa", sum := "9225b2895d0d6780fab49b3f766bce3bb430d5781cf1b45487f3e7257b3c7e74", func := "yearbook/yearbooklaw21.IndexPages", spec := "indexPages", unfollowed := true, recurses := true, apart := false, narrowed := true }
def IndexPagesUptoSaid : Prop := indexPagesUptoRow.holds Try.pinned (OpenSpec.upto indexPagesSpec)

/-- 'yearbooklaw21.IndexBack', WHERE WHAT IT READS IS OF BULK AT MOST 1048576: true; the input reads as it did. -/
def indexBackUptoRow : OpenClaim := { program := "ytgdnpmjmkcccoaa", sum := "9225b2895d0d6780fab49b3f766bce3bb430d5781cf1b45487f3e7257b3c7e74", func := "yearbook/yearbooklaw21.IndexBack", spec := "indexBack", unfollowed := true, recurses := true, apart := false, narrowed := true }
def IndexBackUptoSaid : Prop := indexBackUptoRow.holds Try.pinned (OpenSpec.upto indexBackSpec)

/-- 'yearbooklaw22.ManifestPages', WHERE WHAT IT READS IS OF BULK AT MOST 1048576: true; the input reads as it did. -/
def manifestPagesUptoRow : OpenClaim := { program := "ytgdnpmjmkcccoaa", sum := "9225b2895d0d6780fab49b3f766bce3bb430d5781cf1b45487f3e7257b3c7e74", func := "yearbook/yearbooklaw22.ManifestPages", spec := "manifestPages", unfollowed := true, recurses := true, apart := false, narrowed := true }
def ManifestPagesUptoSaid : Prop := manifestPagesUptoRow.holds Try.pinned (OpenSpec.upto manifestPagesSpec)

end Rows
end Go.Proofs.Ytgdnpmjmkcccoaa
