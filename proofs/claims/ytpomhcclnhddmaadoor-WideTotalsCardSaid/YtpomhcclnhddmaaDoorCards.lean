/-
  DERIVED. GIVEN WITH THE SEED: THE CARDS: each row of YtpomhcclnhddmaaDoorRows.lean that lists a variable, with what it lists TIED to the program's text (the seventh form; the later family's looks); each row that meets fmt, with fmt's text TOLD by the authors' own Lean function (tested against real Go, not proved from fmt's source: count such statements apart). THE CARD IS WHAT COUNTS. Prove the row's statement (the work); the ties are given (YtpomhcclnhddmaaDoorTie.lean); close each card by the builder's one call (the guide's Derived/Test/ToyasCard.lean, 'card_holds'). Laid BY PROGRAM, IN A SANDBOX (cutbox-door.mjs). By AI agents, Wed Nov 11 2026. No macro, syntax, notation, axiom, sorry.
-/
import Derived.Test.YtpomhcclnhddmaaDoorRows
import GoSem.ClaimSeven
namespace Go.Proofs.YtpomhcclnhddmaaDoor
namespace Rows

/-- THE TIED CARD OF 'yearbooklaw01.WideSums'. -/
def wideSumsCard : Claim7 := { stood := { row := wideSumsRow, standIns := [], harness := (true, "9695bf279123cb4682d899ae4f5509d68e4db8b60abbeba9d29bcfbb39f33cba"), looks := false }, kinds := [], alts := [], laidByText := true, laidKinds := [.data, .data, .data], laidTests := true, laidLooks := .later }
def WideSumsCardSaid : Prop := Claim7.holds Tryd.pinned (.plain (OpenSpec.ofChange wideSumsSpec)) wideSumsCard

/-- THE TIED CARD OF 'yearbooklaw01.WideBack'. -/
def wideBackCard : Claim7 := { stood := { row := wideBackRow, standIns := [], harness := (true, "9695bf279123cb4682d899ae4f5509d68e4db8b60abbeba9d29bcfbb39f33cba"), looks := false }, kinds := [], alts := [], laidByText := true, laidKinds := [.data, .data, .data], laidTests := true, laidLooks := .later }
def WideBackCardSaid : Prop := Claim7.holds Tryd.pinned (.plain (OpenSpec.ofChange wideBackSpec)) wideBackCard

/-- THE TIED CARD OF 'yearbooklaw01.WideTimes'. -/
def wideTimesCard : Claim7 := { stood := { row := wideTimesRow, standIns := [], harness := (true, "9695bf279123cb4682d899ae4f5509d68e4db8b60abbeba9d29bcfbb39f33cba"), looks := false }, kinds := [], alts := [], laidByText := true, laidKinds := [.data, .data, .data], laidTests := true, laidLooks := .later }
def WideTimesCardSaid : Prop := Claim7.holds Tryd.pinned (.plain (OpenSpec.ofChange wideTimesSpec)) wideTimesCard

/-- THE TIED CARD OF 'yearbooklaw01.WideParts'. -/
def widePartsCard : Claim7 := { stood := { row := widePartsRow, standIns := [], harness := (true, "9695bf279123cb4682d899ae4f5509d68e4db8b60abbeba9d29bcfbb39f33cba"), looks := false }, kinds := [], alts := [], laidByText := true, laidKinds := [.data, .data, .data], laidTests := true, laidLooks := .later }
def WidePartsCardSaid : Prop := Claim7.holds Tryd.pinned (.plain (OpenSpec.ofChange widePartsSpec)) widePartsCard

/-- THE TIED CARD OF 'yearbooklaw01.WideOrder'. -/
def wideOrderCard : Claim7 := { stood := { row := wideOrderRow, standIns := [], harness := (true, "9695bf279123cb4682d899ae4f5509d68e4db8b60abbeba9d29bcfbb39f33cba"), looks := false }, kinds := [], alts := [], laidByText := true, laidKinds := [.data, .data, .data], laidTests := true, laidLooks := .later }
def WideOrderCardSaid : Prop := Claim7.holds Tryd.pinned (.plain (OpenSpec.ofChange wideOrderSpec)) wideOrderCard

/-- THE TIED CARD OF 'yearbooklaw01.WideProducts'. -/
def wideProductsCard : Claim7 := { stood := { row := wideProductsRow, standIns := [], harness := (true, "9695bf279123cb4682d899ae4f5509d68e4db8b60abbeba9d29bcfbb39f33cba"), looks := false }, kinds := [], alts := [], laidByText := true, laidKinds := [.data, .data, .data], laidTests := true, laidLooks := .later }
def WideProductsCardSaid : Prop := Claim7.holds Tryd.pinned (.plain (OpenSpec.ofChange wideProductsSpec)) wideProductsCard

/-- THE TIED CARD OF 'yearbooklaw01.WideTotals'. -/
def wideTotalsCard : Claim7 := { stood := { row := wideTotalsRow, standIns := [], harness := (true, "9695bf279123cb4682d899ae4f5509d68e4db8b60abbeba9d29bcfbb39f33cba"), looks := false }, kinds := [], alts := [], laidByText := true, laidKinds := [.data, .data, .data], laidTests := true, laidLooks := .later }
def WideTotalsCardSaid : Prop := Claim7.holds Tryd.pinned (.plain (OpenSpec.ofChange wideTotalsSpec)) wideTotalsCard

/-- THE TIED CARD OF 'yearbooklaw01.WideWhole'. -/
def wideWholeCard : Claim7 := { stood := { row := wideWholeRow, standIns := [], harness := (true, "9695bf279123cb4682d899ae4f5509d68e4db8b60abbeba9d29bcfbb39f33cba"), looks := false }, kinds := [], alts := [], laidByText := true, laidKinds := [.data, .data, .data], laidTests := true, laidLooks := .later }
def WideWholeCardSaid : Prop := Claim7.holds Tryd.pinned (.plain (OpenSpec.ofChange wideWholeSpec)) wideWholeCard

/-- THE TIED CARD OF 'yearbooklaw01.WideTexts'. -/
def wideTextsCard : Claim7 := { stood := { row := wideTextsRow, standIns := [], harness := (true, "9695bf279123cb4682d899ae4f5509d68e4db8b60abbeba9d29bcfbb39f33cba"), looks := false }, kinds := [], alts := [], laidByText := true, laidKinds := [.data, .data, .data], laidTests := true, laidLooks := .later }
def WideTextsCardSaid : Prop := Claim7.holds Tryd.pinned (.plain (OpenSpec.ofChange wideTextsSpec)) wideTextsCard

/-- THE SECOND FORM's CARD OF 'yearbooklaw01.WideSums'. -/
def wideSumsUptoCard : Claim7 := { stood := { row := wideSumsUptoRow, standIns := [], harness := (true, "9695bf279123cb4682d899ae4f5509d68e4db8b60abbeba9d29bcfbb39f33cba"), looks := false }, kinds := [], alts := [], laidByText := true, laidKinds := [.data, .data, .data], laidTests := true, laidLooks := .later }
def WideSumsUptoCardSaid : Prop := Claim7.holds Tryd.pinned (.plain (OpenSpec.upto wideSumsSpec)) wideSumsUptoCard

/-- THE SECOND FORM's CARD OF 'yearbooklaw01.WideBack'. -/
def wideBackUptoCard : Claim7 := { stood := { row := wideBackUptoRow, standIns := [], harness := (true, "9695bf279123cb4682d899ae4f5509d68e4db8b60abbeba9d29bcfbb39f33cba"), looks := false }, kinds := [], alts := [], laidByText := true, laidKinds := [.data, .data, .data], laidTests := true, laidLooks := .later }
def WideBackUptoCardSaid : Prop := Claim7.holds Tryd.pinned (.plain (OpenSpec.upto wideBackSpec)) wideBackUptoCard

/-- THE SECOND FORM's CARD OF 'yearbooklaw01.WideTimes'. -/
def wideTimesUptoCard : Claim7 := { stood := { row := wideTimesUptoRow, standIns := [], harness := (true, "9695bf279123cb4682d899ae4f5509d68e4db8b60abbeba9d29bcfbb39f33cba"), looks := false }, kinds := [], alts := [], laidByText := true, laidKinds := [.data, .data, .data], laidTests := true, laidLooks := .later }
def WideTimesUptoCardSaid : Prop := Claim7.holds Tryd.pinned (.plain (OpenSpec.upto wideTimesSpec)) wideTimesUptoCard

/-- THE SECOND FORM's CARD OF 'yearbooklaw01.WideParts'. -/
def widePartsUptoCard : Claim7 := { stood := { row := widePartsUptoRow, standIns := [], harness := (true, "9695bf279123cb4682d899ae4f5509d68e4db8b60abbeba9d29bcfbb39f33cba"), looks := false }, kinds := [], alts := [], laidByText := true, laidKinds := [.data, .data, .data], laidTests := true, laidLooks := .later }
def WidePartsUptoCardSaid : Prop := Claim7.holds Tryd.pinned (.plain (OpenSpec.upto widePartsSpec)) widePartsUptoCard

/-- THE SECOND FORM's CARD OF 'yearbooklaw01.WideOrder'. -/
def wideOrderUptoCard : Claim7 := { stood := { row := wideOrderUptoRow, standIns := [], harness := (true, "9695bf279123cb4682d899ae4f5509d68e4db8b60abbeba9d29bcfbb39f33cba"), looks := false }, kinds := [], alts := [], laidByText := true, laidKinds := [.data, .data, .data], laidTests := true, laidLooks := .later }
def WideOrderUptoCardSaid : Prop := Claim7.holds Tryd.pinned (.plain (OpenSpec.upto wideOrderSpec)) wideOrderUptoCard

/-- THE SECOND FORM's CARD OF 'yearbooklaw01.WideProducts'. -/
def wideProductsUptoCard : Claim7 := { stood := { row := wideProductsUptoRow, standIns := [], harness := (true, "9695bf279123cb4682d899ae4f5509d68e4db8b60abbeba9d29bcfbb39f33cba"), looks := false }, kinds := [], alts := [], laidByText := true, laidKinds := [.data, .data, .data], laidTests := true, laidLooks := .later }
def WideProductsUptoCardSaid : Prop := Claim7.holds Tryd.pinned (.plain (OpenSpec.upto wideProductsSpec)) wideProductsUptoCard

/-- THE SECOND FORM's CARD OF 'yearbooklaw01.WideTotals'. -/
def wideTotalsUptoCard : Claim7 := { stood := { row := wideTotalsUptoRow, standIns := [], harness := (true, "9695bf279123cb4682d899ae4f5509d68e4db8b60abbeba9d29bcfbb39f33cba"), looks := false }, kinds := [], alts := [], laidByText := true, laidKinds := [.data, .data, .data], laidTests := true, laidLooks := .later }
def WideTotalsUptoCardSaid : Prop := Claim7.holds Tryd.pinned (.plain (OpenSpec.upto wideTotalsSpec)) wideTotalsUptoCard

/-- THE SECOND FORM's CARD OF 'yearbooklaw01.WideWhole'. -/
def wideWholeUptoCard : Claim7 := { stood := { row := wideWholeUptoRow, standIns := [], harness := (true, "9695bf279123cb4682d899ae4f5509d68e4db8b60abbeba9d29bcfbb39f33cba"), looks := false }, kinds := [], alts := [], laidByText := true, laidKinds := [.data, .data, .data], laidTests := true, laidLooks := .later }
def WideWholeUptoCardSaid : Prop := Claim7.holds Tryd.pinned (.plain (OpenSpec.upto wideWholeSpec)) wideWholeUptoCard

/-- THE SECOND FORM's CARD OF 'yearbooklaw01.WideTexts'. -/
def wideTextsUptoCard : Claim7 := { stood := { row := wideTextsUptoRow, standIns := [], harness := (true, "9695bf279123cb4682d899ae4f5509d68e4db8b60abbeba9d29bcfbb39f33cba"), looks := false }, kinds := [], alts := [], laidByText := true, laidKinds := [.data, .data, .data], laidTests := true, laidLooks := .later }
def WideTextsUptoCardSaid : Prop := Claim7.holds Tryd.pinned (.plain (OpenSpec.upto wideTextsSpec)) wideTextsUptoCard
end Rows
end Go.Proofs.YtpomhcclnhddmaaDoor
