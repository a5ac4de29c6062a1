/-
  DERIVED. GIVEN WITH THE SEED: THE CARDS: each row of YtahclhldpcboeaaGreatDoorRows.lean that lists a variable, with what it lists TIED to the program's text (the seventh form; the later family's looks); each row that meets fmt, with fmt's text TOLD by the authors' own Lean function (tested against real Go, not proved from fmt's source: count such statements apart). THE CARD IS WHAT COUNTS. Prove the row's statement (the work); the ties are given (YtahclhldpcboeaaGreatDoorTie.lean); close each card by the builder's one call (the guide's Derived/Test/ToyasCard.lean, 'card_holds'). Laid BY PROGRAM, IN A SANDBOX (cutbox-door.mjs). By AI agents, Wed Nov 11 2026. No macro, syntax, notation, axiom, sorry.
-/
import Derived.Test.YtahclhldpcboeaaGreatDoorRows
import GoSem.ClaimSeven
namespace Go.Proofs.YtahclhldpcboeaaGreatDoor
namespace Rows

/-- THE TIED CARD OF 'laws.FnContainment'. -/
def fnContainmentCard : Claim7 := { stood := { row := fnContainmentRow, standIns := [], harness := (true, "d46315f2325bbadd77da40d9b8f0e7ca13a5c80b35cb4c4c6099204c493be06e"), looks := true }, kinds := [], alts := [], laidByText := true, laidKinds := [.sentinel, .sentinel], laidTests := true, laidLooks := .later }
def FnContainmentCardSaid : Prop := Claim7.holds Tryz.pinned (.plain (OpenSpec.ofChange fnContainmentSpec)) fnContainmentCard

/-- THE TIED CARD OF 'laws.FnContainmentComplete'. -/
def fnContainmentCompleteCard : Claim7 := { stood := { row := fnContainmentCompleteRow, standIns := [], harness := (true, "d46315f2325bbadd77da40d9b8f0e7ca13a5c80b35cb4c4c6099204c493be06e"), looks := true }, kinds := [], alts := [], laidByText := true, laidKinds := [.sentinel, .sentinel], laidTests := true, laidLooks := .later }
def FnContainmentCompleteCardSaid : Prop := Claim7.holds Tryz.pinned (.plain (OpenSpec.ofChange fnContainmentCompleteSpec)) fnContainmentCompleteCard

/-- THE TIED CARD OF 'laws.FnMinimize'. -/
def fnMinimizeCard : Claim7 := { stood := { row := fnMinimizeRow, standIns := [], harness := (true, "d46315f2325bbadd77da40d9b8f0e7ca13a5c80b35cb4c4c6099204c493be06e"), looks := true }, kinds := [], alts := [], laidByText := true, laidKinds := [.sentinel, .sentinel], laidTests := true, laidLooks := .later }
def FnMinimizeCardSaid : Prop := Claim7.holds Tryz.pinned (.plain (OpenSpec.ofChange fnMinimizeSpec)) fnMinimizeCard

/-- THE SECOND FORM's CARD OF 'laws.FnContainment'. -/
def fnContainmentUptoCard : Claim7 := { stood := { row := fnContainmentUptoRow, standIns := [], harness := (true, "d46315f2325bbadd77da40d9b8f0e7ca13a5c80b35cb4c4c6099204c493be06e"), looks := true }, kinds := [], alts := [], laidByText := true, laidKinds := [.sentinel, .sentinel], laidTests := true, laidLooks := .later }
def FnContainmentUptoCardSaid : Prop := Claim7.holds Tryz.pinned (.plain (OpenSpec.upto fnContainmentSpec)) fnContainmentUptoCard

/-- THE SECOND FORM's CARD OF 'laws.FnContainmentComplete'. -/
def fnContainmentCompleteUptoCard : Claim7 := { stood := { row := fnContainmentCompleteUptoRow, standIns := [], harness := (true, "d46315f2325bbadd77da40d9b8f0e7ca13a5c80b35cb4c4c6099204c493be06e"), looks := true }, kinds := [], alts := [], laidByText := true, laidKinds := [.sentinel, .sentinel], laidTests := true, laidLooks := .later }
def FnContainmentCompleteUptoCardSaid : Prop := Claim7.holds Tryz.pinned (.plain (OpenSpec.upto fnContainmentCompleteSpec)) fnContainmentCompleteUptoCard

/-- THE SECOND FORM's CARD OF 'laws.FnMinimize'. -/
def fnMinimizeUptoCard : Claim7 := { stood := { row := fnMinimizeUptoRow, standIns := [], harness := (true, "d46315f2325bbadd77da40d9b8f0e7ca13a5c80b35cb4c4c6099204c493be06e"), looks := true }, kinds := [], alts := [], laidByText := true, laidKinds := [.sentinel, .sentinel], laidTests := true, laidLooks := .later }
def FnMinimizeUptoCardSaid : Prop := Claim7.holds Tryz.pinned (.plain (OpenSpec.upto fnMinimizeSpec)) fnMinimizeUptoCard
end Rows
end Go.Proofs.YtahclhldpcboeaaGreatDoor
