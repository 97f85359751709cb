/-
  DERIVED. GIVEN WITH THE SEED: THE CARDS: each row of YtkfmenmnbhenoaaDoorRows.lean that lists a variable, with what it lists TIED to the program's text (the seventh form; the later family's looks); each row that meets fmt, with fmt's text TOLD by the authors' own Lean function (tested against real Go, not proved from fmt's source: count such statements apart). THE CARD IS WHAT COUNTS. Prove the row's statement (the work); the ties are given (YtkfmenmnbhenoaaDoorTie.lean); close each card by the builder's one call (the guide's Derived/Test/ToyasCard.lean, 'card_holds'). Laid BY PROGRAM, IN A SANDBOX (cutbox-door.mjs). By AI agents, Wed Nov 11 2026. No macro, syntax, notation, axiom, sorry.
-/
import Derived.Test.YtkfmenmnbhenoaaDoorRows
import GoSem.ClaimSeven
namespace Go.Proofs.YtkfmenmnbhenoaaDoor
namespace Rows

/-- THE TIED CARD OF 'middenlaw01.WordUnpacks'. -/
def wordUnpacksCard : Claim7 := { stood := { row := wordUnpacksRow, standIns := [], harness := (true, "7f86059fcfe01f7fc58484bee975063dff0ca4efc69bab1e019a2c2c2ae369ce"), looks := false }, kinds := [], alts := [], laidByText := true, laidKinds := [.data], laidTests := true, laidLooks := .later }
def WordUnpacksCardSaid : Prop := Claim7.holds Tryd.pinned (.plain (OpenSpec.ofChange wordUnpacksSpec)) wordUnpacksCard

/-- THE TIED CARD OF 'middenlaw01.WordBack'. -/
def wordBackCard : Claim7 := { stood := { row := wordBackRow, standIns := [], harness := (true, "7f86059fcfe01f7fc58484bee975063dff0ca4efc69bab1e019a2c2c2ae369ce"), looks := false }, kinds := [], alts := [], laidByText := true, laidKinds := [.data], laidTests := true, laidLooks := .later }
def WordBackCardSaid : Prop := Claim7.holds Tryd.pinned (.plain (OpenSpec.ofChange wordBackSpec)) wordBackCard

/-- THE TIED CARD OF 'middenlaw01.WordApart'. -/
def wordApartCard : Claim7 := { stood := { row := wordApartRow, standIns := [], harness := (true, "7f86059fcfe01f7fc58484bee975063dff0ca4efc69bab1e019a2c2c2ae369ce"), looks := false }, kinds := [], alts := [], laidByText := true, laidKinds := [.data], laidTests := true, laidLooks := .later }
def WordApartCardSaid : Prop := Claim7.holds Tryd.pinned (.plain (OpenSpec.ofChange wordApartSpec)) wordApartCard

/-- THE SECOND FORM's CARD OF 'middenlaw01.WordUnpacks'. -/
def wordUnpacksUptoCard : Claim7 := { stood := { row := wordUnpacksUptoRow, standIns := [], harness := (true, "7f86059fcfe01f7fc58484bee975063dff0ca4efc69bab1e019a2c2c2ae369ce"), looks := false }, kinds := [], alts := [], laidByText := true, laidKinds := [.data], laidTests := true, laidLooks := .later }
def WordUnpacksUptoCardSaid : Prop := Claim7.holds Tryd.pinned (.plain (OpenSpec.upto wordUnpacksSpec)) wordUnpacksUptoCard

/-- THE SECOND FORM's CARD OF 'middenlaw01.WordBack'. -/
def wordBackUptoCard : Claim7 := { stood := { row := wordBackUptoRow, standIns := [], harness := (true, "7f86059fcfe01f7fc58484bee975063dff0ca4efc69bab1e019a2c2c2ae369ce"), looks := false }, kinds := [], alts := [], laidByText := true, laidKinds := [.data], laidTests := true, laidLooks := .later }
def WordBackUptoCardSaid : Prop := Claim7.holds Tryd.pinned (.plain (OpenSpec.upto wordBackSpec)) wordBackUptoCard

/-- THE SECOND FORM's CARD OF 'middenlaw01.WordApart'. -/
def wordApartUptoCard : Claim7 := { stood := { row := wordApartUptoRow, standIns := [], harness := (true, "7f86059fcfe01f7fc58484bee975063dff0ca4efc69bab1e019a2c2c2ae369ce"), looks := false }, kinds := [], alts := [], laidByText := true, laidKinds := [.data], laidTests := true, laidLooks := .later }
def WordApartUptoCardSaid : Prop := Claim7.holds Tryd.pinned (.plain (OpenSpec.upto wordApartSpec)) wordApartUptoCard
end Rows
end Go.Proofs.YtkfmenmnbhenoaaDoor
