/-
  DERIVED. GIVEN WITH THE SEED: THE CARDS: each row of YtahclhldpcboeaaDoorRows.lean that lists a variable, with what it lists TIED to the program's text (the seventh form; the later family's looks); each row that meets fmt, with fmt's text TOLD by the authors' own Lean function (tested against real Go, not proved from fmt's source: count such statements apart). THE CARD IS WHAT COUNTS. Prove the row's statement (the work); the ties are given (YtahclhldpcboeaaDoorTie.lean); close each card by the builder's one call (the guide's Derived/Test/ToyasCard.lean, 'card_holds'). Laid BY PROGRAM, IN A SANDBOX (cutbox-door.mjs). By AI agents, Wed Nov 11 2026. No macro, syntax, notation, axiom, sorry.
-/
import Derived.Test.YtahclhldpcboeaaDoorRows
import GoSem.ClaimSeven
namespace Go.Proofs.YtahclhldpcboeaaDoor
namespace Rows

/-- THE TIED CARD OF 'laws.FnExactIsContained'. -/
def fnExactIsContainedCard : Claim7 := { stood := { row := fnExactIsContainedRow, standIns := [], harness := (true, "acea5126f61d3302c5f9e0523af801e9b566b23a792b9e8cfa3b34e58cb2943c"), looks := true }, kinds := [], alts := [], laidByText := true, laidKinds := [.sentinel, .sentinel], laidTests := true, laidLooks := .later }
def FnExactIsContainedCardSaid : Prop := Claim7.holds Tryd.pinned (.plain (OpenSpec.ofChange fnExactIsContainedSpec)) fnExactIsContainedCard

/-- THE TIED CARD OF 'laws.FnExactFindHomomorphism'. -/
def fnExactFindHomomorphismCard : Claim7 := { stood := { row := fnExactFindHomomorphismRow, standIns := [], harness := (true, "acea5126f61d3302c5f9e0523af801e9b566b23a792b9e8cfa3b34e58cb2943c"), looks := true }, kinds := [], alts := [], laidByText := true, laidKinds := [.sentinel, .sentinel], laidTests := true, laidLooks := .later }
def FnExactFindHomomorphismCardSaid : Prop := Claim7.holds Tryd.pinned (.plain (OpenSpec.ofChange fnExactFindHomomorphismSpec)) fnExactFindHomomorphismCard

/-- THE TIED CARD OF 'laws.FnExactIsMinimal'. -/
def fnExactIsMinimalCard : Claim7 := { stood := { row := fnExactIsMinimalRow, standIns := [], harness := (true, "acea5126f61d3302c5f9e0523af801e9b566b23a792b9e8cfa3b34e58cb2943c"), looks := true }, kinds := [], alts := [], laidByText := true, laidKinds := [.sentinel, .sentinel], laidTests := true, laidLooks := .later }
def FnExactIsMinimalCardSaid : Prop := Claim7.holds Tryd.pinned (.plain (OpenSpec.ofChange fnExactIsMinimalSpec)) fnExactIsMinimalCard

/-- THE TIED CARD OF 'laws.FnExactMinimize'. -/
def fnExactMinimizeCard : Claim7 := { stood := { row := fnExactMinimizeRow, standIns := [], harness := (true, "acea5126f61d3302c5f9e0523af801e9b566b23a792b9e8cfa3b34e58cb2943c"), looks := true }, kinds := [], alts := [], laidByText := true, laidKinds := [.sentinel, .sentinel], laidTests := true, laidLooks := .later }
def FnExactMinimizeCardSaid : Prop := Claim7.holds Tryd.pinned (.plain (OpenSpec.ofChange fnExactMinimizeSpec)) fnExactMinimizeCard

/-- THE TIED CARD OF 'laws.FnContainmentOrder'. -/
def fnContainmentOrderCard : Claim7 := { stood := { row := fnContainmentOrderRow, standIns := [], harness := (true, "acea5126f61d3302c5f9e0523af801e9b566b23a792b9e8cfa3b34e58cb2943c"), looks := true }, kinds := [], alts := [], laidByText := true, laidKinds := [.sentinel, .sentinel], laidTests := true, laidLooks := .later }
def FnContainmentOrderCardSaid : Prop := Claim7.holds Tryd.pinned (.plain (OpenSpec.ofChange fnContainmentOrderSpec)) fnContainmentOrderCard

/-- THE TIED CARD OF 'laws.FnFindHomomorphism'. -/
def fnFindHomomorphismCard : Claim7 := { stood := { row := fnFindHomomorphismRow, standIns := [], harness := (true, "acea5126f61d3302c5f9e0523af801e9b566b23a792b9e8cfa3b34e58cb2943c"), looks := true }, kinds := [], alts := [], laidByText := true, laidKinds := [.sentinel, .sentinel], laidTests := true, laidLooks := .later }
def FnFindHomomorphismCardSaid : Prop := Claim7.holds Tryd.pinned (.plain (OpenSpec.ofChange fnFindHomomorphismSpec)) fnFindHomomorphismCard

/-- THE TIED CARD OF 'laws.FnMinimizeTwice'. -/
def fnMinimizeTwiceCard : Claim7 := { stood := { row := fnMinimizeTwiceRow, standIns := [], harness := (true, "acea5126f61d3302c5f9e0523af801e9b566b23a792b9e8cfa3b34e58cb2943c"), looks := true }, kinds := [], alts := [], laidByText := true, laidKinds := [.sentinel, .sentinel], laidTests := true, laidLooks := .later }
def FnMinimizeTwiceCardSaid : Prop := Claim7.holds Tryd.pinned (.plain (OpenSpec.ofChange fnMinimizeTwiceSpec)) fnMinimizeTwiceCard

/-- THE TIED CARD OF 'laws.FnCheckHomomorphism'. -/
def fnCheckHomomorphismCard : Claim7 := { stood := { row := fnCheckHomomorphismRow, standIns := [], harness := (true, "acea5126f61d3302c5f9e0523af801e9b566b23a792b9e8cfa3b34e58cb2943c"), looks := true }, kinds := [], alts := [], laidByText := true, laidKinds := [.sentinel, .sentinel], laidTests := true, laidLooks := .later }
def FnCheckHomomorphismCardSaid : Prop := Claim7.holds Tryd.pinned (.plain (OpenSpec.ofChange fnCheckHomomorphismSpec)) fnCheckHomomorphismCard

/-- THE SECOND FORM's CARD OF 'laws.FnExactIsContained'. -/
def fnExactIsContainedUptoCard : Claim7 := { stood := { row := fnExactIsContainedUptoRow, standIns := [], harness := (true, "acea5126f61d3302c5f9e0523af801e9b566b23a792b9e8cfa3b34e58cb2943c"), looks := true }, kinds := [], alts := [], laidByText := true, laidKinds := [.sentinel, .sentinel], laidTests := true, laidLooks := .later }
def FnExactIsContainedUptoCardSaid : Prop := Claim7.holds Tryd.pinned (.plain (OpenSpec.upto fnExactIsContainedSpec)) fnExactIsContainedUptoCard

/-- THE SECOND FORM's CARD OF 'laws.FnExactFindHomomorphism'. -/
def fnExactFindHomomorphismUptoCard : Claim7 := { stood := { row := fnExactFindHomomorphismUptoRow, standIns := [], harness := (true, "acea5126f61d3302c5f9e0523af801e9b566b23a792b9e8cfa3b34e58cb2943c"), looks := true }, kinds := [], alts := [], laidByText := true, laidKinds := [.sentinel, .sentinel], laidTests := true, laidLooks := .later }
def FnExactFindHomomorphismUptoCardSaid : Prop := Claim7.holds Tryd.pinned (.plain (OpenSpec.upto fnExactFindHomomorphismSpec)) fnExactFindHomomorphismUptoCard

/-- THE SECOND FORM's CARD OF 'laws.FnExactIsMinimal'. -/
def fnExactIsMinimalUptoCard : Claim7 := { stood := { row := fnExactIsMinimalUptoRow, standIns := [], harness := (true, "acea5126f61d3302c5f9e0523af801e9b566b23a792b9e8cfa3b34e58cb2943c"), looks := true }, kinds := [], alts := [], laidByText := true, laidKinds := [.sentinel, .sentinel], laidTests := true, laidLooks := .later }
def FnExactIsMinimalUptoCardSaid : Prop := Claim7.holds Tryd.pinned (.plain (OpenSpec.upto fnExactIsMinimalSpec)) fnExactIsMinimalUptoCard

/-- THE SECOND FORM's CARD OF 'laws.FnExactMinimize'. -/
def fnExactMinimizeUptoCard : Claim7 := { stood := { row := fnExactMinimizeUptoRow, standIns := [], harness := (true, "acea5126f61d3302c5f9e0523af801e9b566b23a792b9e8cfa3b34e58cb2943c"), looks := true }, kinds := [], alts := [], laidByText := true, laidKinds := [.sentinel, .sentinel], laidTests := true, laidLooks := .later }
def FnExactMinimizeUptoCardSaid : Prop := Claim7.holds Tryd.pinned (.plain (OpenSpec.upto fnExactMinimizeSpec)) fnExactMinimizeUptoCard

/-- THE SECOND FORM's CARD OF 'laws.FnContainmentOrder'. -/
def fnContainmentOrderUptoCard : Claim7 := { stood := { row := fnContainmentOrderUptoRow, standIns := [], harness := (true, "acea5126f61d3302c5f9e0523af801e9b566b23a792b9e8cfa3b34e58cb2943c"), looks := true }, kinds := [], alts := [], laidByText := true, laidKinds := [.sentinel, .sentinel], laidTests := true, laidLooks := .later }
def FnContainmentOrderUptoCardSaid : Prop := Claim7.holds Tryd.pinned (.plain (OpenSpec.upto fnContainmentOrderSpec)) fnContainmentOrderUptoCard

/-- THE SECOND FORM's CARD OF 'laws.FnFindHomomorphism'. -/
def fnFindHomomorphismUptoCard : Claim7 := { stood := { row := fnFindHomomorphismUptoRow, standIns := [], harness := (true, "acea5126f61d3302c5f9e0523af801e9b566b23a792b9e8cfa3b34e58cb2943c"), looks := true }, kinds := [], alts := [], laidByText := true, laidKinds := [.sentinel, .sentinel], laidTests := true, laidLooks := .later }
def FnFindHomomorphismUptoCardSaid : Prop := Claim7.holds Tryd.pinned (.plain (OpenSpec.upto fnFindHomomorphismSpec)) fnFindHomomorphismUptoCard

/-- THE SECOND FORM's CARD OF 'laws.FnMinimizeTwice'. -/
def fnMinimizeTwiceUptoCard : Claim7 := { stood := { row := fnMinimizeTwiceUptoRow, standIns := [], harness := (true, "acea5126f61d3302c5f9e0523af801e9b566b23a792b9e8cfa3b34e58cb2943c"), looks := true }, kinds := [], alts := [], laidByText := true, laidKinds := [.sentinel, .sentinel], laidTests := true, laidLooks := .later }
def FnMinimizeTwiceUptoCardSaid : Prop := Claim7.holds Tryd.pinned (.plain (OpenSpec.upto fnMinimizeTwiceSpec)) fnMinimizeTwiceUptoCard

/-- THE SECOND FORM's CARD OF 'laws.FnCheckHomomorphism'. -/
def fnCheckHomomorphismUptoCard : Claim7 := { stood := { row := fnCheckHomomorphismUptoRow, standIns := [], harness := (true, "acea5126f61d3302c5f9e0523af801e9b566b23a792b9e8cfa3b34e58cb2943c"), looks := true }, kinds := [], alts := [], laidByText := true, laidKinds := [.sentinel, .sentinel], laidTests := true, laidLooks := .later }
def FnCheckHomomorphismUptoCardSaid : Prop := Claim7.holds Tryd.pinned (.plain (OpenSpec.upto fnCheckHomomorphismSpec)) fnCheckHomomorphismUptoCard
end Rows
end Go.Proofs.YtahclhldpcboeaaDoor
