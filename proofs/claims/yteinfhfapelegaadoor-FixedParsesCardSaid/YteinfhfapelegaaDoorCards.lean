/-
  DERIVED. GIVEN WITH THE SEED: THE CARDS: each row of YteinfhfapelegaaDoorRows.lean that lists a variable, with what it lists TIED to the program's text (the seventh form; the later family's looks); each row that meets fmt, with fmt's text TOLD by the authors' own Lean function (tested against real Go, not proved from fmt's source: count such statements apart). THE CARD IS WHAT COUNTS. Prove the row's statement (the work); the ties are given (YteinfhfapelegaaDoorTie.lean); close each card by the builder's one call (the guide's Derived/Test/ToyasCard.lean, 'card_holds'). Laid BY PROGRAM, IN A SANDBOX (cutbox-door.mjs). By AI agents, Wed Nov 11 2026. No macro, syntax, notation, axiom, sorry.
-/
import Derived.Test.YteinfhfapelegaaDoorRows
import GoSem.ClaimSeven
namespace Go.Proofs.YteinfhfapelegaaDoor
namespace Rows

/-- THE TIED CARD OF 'roboticslaw03.FixedParses'. -/
def fixedParsesCard : Claim7 := { stood := { row := fixedParsesRow, standIns := [], harness := (true, "2a99e891309e928535b5804c98ad6ca24bde32c7f22ce9e5074e80b32821987e"), looks := false }, kinds := [], alts := [], laidByText := true, laidKinds := [.data], laidTests := true, laidLooks := .later }
def FixedParsesCardSaid : Prop := Claim7.holds Tryd.pinned (.plain (OpenSpec.ofChange fixedParsesSpec)) fixedParsesCard

/-- THE SECOND FORM's CARD OF 'roboticslaw03.FixedParses'. -/
def fixedParsesUptoCard : Claim7 := { stood := { row := fixedParsesUptoRow, standIns := [], harness := (true, "2a99e891309e928535b5804c98ad6ca24bde32c7f22ce9e5074e80b32821987e"), looks := false }, kinds := [], alts := [], laidByText := true, laidKinds := [.data], laidTests := true, laidLooks := .later }
def FixedParsesUptoCardSaid : Prop := Claim7.holds Tryd.pinned (.plain (OpenSpec.upto fixedParsesSpec)) fixedParsesUptoCard
end Rows
end Go.Proofs.YteinfhfapelegaaDoor
