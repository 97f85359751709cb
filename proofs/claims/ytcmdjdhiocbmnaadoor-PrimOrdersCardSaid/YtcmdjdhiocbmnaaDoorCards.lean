/-
  DERIVED. GIVEN WITH THE SEED: THE CARDS: each row of YtcmdjdhiocbmnaaDoorRows.lean that lists a variable, with what it lists TIED to the program's text (the seventh form; the later family's looks); each row that meets fmt, with fmt's text TOLD by the authors' own Lean function (tested against real Go, not proved from fmt's source: count such statements apart). THE CARD IS WHAT COUNTS. Prove the row's statement (the work); the ties are given (YtcmdjdhiocbmnaaDoorTie.lean); close each card by the builder's one call (the guide's Derived/Test/ToyasCard.lean, 'card_holds'). Laid BY PROGRAM, IN A SANDBOX (cutbox-door.mjs). By AI agents, Wed Nov 11 2026. No macro, syntax, notation, axiom, sorry.
-/
import Derived.Test.YtcmdjdhiocbmnaaDoorRows
import GoSem.ClaimSeven
namespace Go.Proofs.YtcmdjdhiocbmnaaDoor
namespace Rows

/-- THE TIED CARD OF 'middenlaw08.PrimNames'. -/
def primNamesCard : Claim7 := { stood := { row := primNamesRow, standIns := [], harness := (true, "70bf6f332fb93109c7b56f9405b8ee2b55f3ec27925cb692a3cb570d0c18b993"), looks := false }, kinds := [], alts := [], laidByText := true, laidKinds := [.data], laidTests := true, laidLooks := .later }
def PrimNamesCardSaid : Prop := Claim7.holds Tryd.pinned (.plain (OpenSpec.ofChange primNamesSpec)) primNamesCard

/-- THE TIED CARD OF 'middenlaw08.PrimDoes'. -/
def primDoesCard : Claim7 := { stood := { row := primDoesRow, standIns := [], harness := (true, "70bf6f332fb93109c7b56f9405b8ee2b55f3ec27925cb692a3cb570d0c18b993"), looks := false }, kinds := [], alts := [], laidByText := true, laidKinds := [.data], laidTests := true, laidLooks := .later }
def PrimDoesCardSaid : Prop := Claim7.holds Tryd.pinned (.plain (OpenSpec.ofChange primDoesSpec)) primDoesCard

/-- THE TIED CARD OF 'middenlaw08.PrimParts'. -/
def primPartsCard : Claim7 := { stood := { row := primPartsRow, standIns := [], harness := (true, "70bf6f332fb93109c7b56f9405b8ee2b55f3ec27925cb692a3cb570d0c18b993"), looks := false }, kinds := [], alts := [], laidByText := true, laidKinds := [.data], laidTests := true, laidLooks := .later }
def PrimPartsCardSaid : Prop := Claim7.holds Tryd.pinned (.plain (OpenSpec.ofChange primPartsSpec)) primPartsCard

/-- THE TIED CARD OF 'middenlaw08.PrimOrders'. -/
def primOrdersCard : Claim7 := { stood := { row := primOrdersRow, standIns := [], harness := (true, "70bf6f332fb93109c7b56f9405b8ee2b55f3ec27925cb692a3cb570d0c18b993"), looks := false }, kinds := [], alts := [], laidByText := true, laidKinds := [.data], laidTests := true, laidLooks := .later }
def PrimOrdersCardSaid : Prop := Claim7.holds Tryd.pinned (.plain (OpenSpec.ofChange primOrdersSpec)) primOrdersCard

/-- THE TIED CARD OF 'middenlaw08.PrimNeeds'. -/
def primNeedsCard : Claim7 := { stood := { row := primNeedsRow, standIns := [], harness := (true, "70bf6f332fb93109c7b56f9405b8ee2b55f3ec27925cb692a3cb570d0c18b993"), looks := false }, kinds := [], alts := [], laidByText := true, laidKinds := [.data], laidTests := true, laidLooks := .later }
def PrimNeedsCardSaid : Prop := Claim7.holds Tryd.pinned (.plain (OpenSpec.ofChange primNeedsSpec)) primNeedsCard

/-- THE SECOND FORM's CARD OF 'middenlaw08.PrimNames'. -/
def primNamesUptoCard : Claim7 := { stood := { row := primNamesUptoRow, standIns := [], harness := (true, "70bf6f332fb93109c7b56f9405b8ee2b55f3ec27925cb692a3cb570d0c18b993"), looks := false }, kinds := [], alts := [], laidByText := true, laidKinds := [.data], laidTests := true, laidLooks := .later }
def PrimNamesUptoCardSaid : Prop := Claim7.holds Tryd.pinned (.plain (OpenSpec.upto primNamesSpec)) primNamesUptoCard

/-- THE SECOND FORM's CARD OF 'middenlaw08.PrimDoes'. -/
def primDoesUptoCard : Claim7 := { stood := { row := primDoesUptoRow, standIns := [], harness := (true, "70bf6f332fb93109c7b56f9405b8ee2b55f3ec27925cb692a3cb570d0c18b993"), looks := false }, kinds := [], alts := [], laidByText := true, laidKinds := [.data], laidTests := true, laidLooks := .later }
def PrimDoesUptoCardSaid : Prop := Claim7.holds Tryd.pinned (.plain (OpenSpec.upto primDoesSpec)) primDoesUptoCard

/-- THE SECOND FORM's CARD OF 'middenlaw08.PrimParts'. -/
def primPartsUptoCard : Claim7 := { stood := { row := primPartsUptoRow, standIns := [], harness := (true, "70bf6f332fb93109c7b56f9405b8ee2b55f3ec27925cb692a3cb570d0c18b993"), looks := false }, kinds := [], alts := [], laidByText := true, laidKinds := [.data], laidTests := true, laidLooks := .later }
def PrimPartsUptoCardSaid : Prop := Claim7.holds Tryd.pinned (.plain (OpenSpec.upto primPartsSpec)) primPartsUptoCard

/-- THE SECOND FORM's CARD OF 'middenlaw08.PrimOrders'. -/
def primOrdersUptoCard : Claim7 := { stood := { row := primOrdersUptoRow, standIns := [], harness := (true, "70bf6f332fb93109c7b56f9405b8ee2b55f3ec27925cb692a3cb570d0c18b993"), looks := false }, kinds := [], alts := [], laidByText := true, laidKinds := [.data], laidTests := true, laidLooks := .later }
def PrimOrdersUptoCardSaid : Prop := Claim7.holds Tryd.pinned (.plain (OpenSpec.upto primOrdersSpec)) primOrdersUptoCard

/-- THE SECOND FORM's CARD OF 'middenlaw08.PrimNeeds'. -/
def primNeedsUptoCard : Claim7 := { stood := { row := primNeedsUptoRow, standIns := [], harness := (true, "70bf6f332fb93109c7b56f9405b8ee2b55f3ec27925cb692a3cb570d0c18b993"), looks := false }, kinds := [], alts := [], laidByText := true, laidKinds := [.data], laidTests := true, laidLooks := .later }
def PrimNeedsUptoCardSaid : Prop := Claim7.holds Tryd.pinned (.plain (OpenSpec.upto primNeedsSpec)) primNeedsUptoCard
end Rows
end Go.Proofs.YtcmdjdhiocbmnaaDoor
