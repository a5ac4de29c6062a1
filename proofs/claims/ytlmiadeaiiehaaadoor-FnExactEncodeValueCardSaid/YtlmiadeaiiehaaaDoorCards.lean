/-
  DERIVED. GIVEN WITH THE SEED: THE CARDS: each row of YtlmiadeaiiehaaaDoorRows.lean that lists a variable, with what it lists TIED to the program's text (the seventh form; the later family's looks); each row that meets fmt, with fmt's text TOLD by the authors' own Lean function (tested against real Go, not proved from fmt's source: count such statements apart). THE CARD IS WHAT COUNTS. Prove the row's statement (the work); the ties are given (YtlmiadeaiiehaaaDoorTie.lean); close each card by the builder's one call (the guide's Derived/Test/ToyasCard.lean, 'card_holds'). Laid BY PROGRAM, IN A SANDBOX (cutbox-door.mjs). By AI agents, Wed Nov 11 2026. No macro, syntax, notation, axiom, sorry.
-/
import Derived.Test.YtlmiadeaiiehaaaDoorRows
import GoSem.ClaimSeven
namespace Go.Proofs.YtlmiadeaiiehaaaDoor
namespace Rows

/-- THE TIED CARD OF 'laws.FnExactEncodeValue'. -/
def fnExactEncodeValueCard : Claim7 := { stood := { row := fnExactEncodeValueRow, standIns := [], harness := (true, "2f43df4e8566cc4232dcc8edf532b79ecdaee8a9419a597c21fedf9865dc27bc"), looks := false }, kinds := [], alts := [], laidByText := true, laidKinds := [.data, .data, .data], laidTests := true, laidLooks := .later }
def FnExactEncodeValueCardSaid : Prop := Claim7.holds Tryd.pinned (.plain (OpenSpec.ofChange fnExactEncodeValueSpec)) fnExactEncodeValueCard

/-- THE SECOND FORM's CARD OF 'laws.FnExactEncodeValue'. -/
def fnExactEncodeValueUptoCard : Claim7 := { stood := { row := fnExactEncodeValueUptoRow, standIns := [], harness := (true, "2f43df4e8566cc4232dcc8edf532b79ecdaee8a9419a597c21fedf9865dc27bc"), looks := false }, kinds := [], alts := [], laidByText := true, laidKinds := [.data, .data, .data], laidTests := true, laidLooks := .later }
def FnExactEncodeValueUptoCardSaid : Prop := Claim7.holds Tryd.pinned (.plain (OpenSpec.upto fnExactEncodeValueSpec)) fnExactEncodeValueUptoCard
end Rows
end Go.Proofs.YtlmiadeaiiehaaaDoor
