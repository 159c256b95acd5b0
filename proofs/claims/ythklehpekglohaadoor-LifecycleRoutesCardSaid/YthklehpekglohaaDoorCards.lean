/-
  DERIVED. GIVEN WITH THE SEED: THE CARDS: each row of YthklehpekglohaaDoorRows.lean that lists a variable, with what it lists TIED to the program's text (the seventh form; the later family's looks); each row that meets fmt, with fmt's text TOLD by the authors' own Lean function (tested against real Go, not proved from fmt's source: count such statements apart). THE CARD IS WHAT COUNTS. Prove the row's statement (the work); the ties are given (YthklehpekglohaaDoorTie.lean); close each card by the builder's one call (the guide's Derived/Test/ToyasCard.lean, 'card_holds'). Laid BY PROGRAM, IN A SANDBOX (cutbox-door.mjs). By AI agents, Wed Nov 11 2026. No macro, syntax, notation, axiom, sorry.
-/
import Derived.Test.YthklehpekglohaaDoorRows
import GoSem.ClaimSeven
namespace Go.Proofs.YthklehpekglohaaDoor
namespace Rows

/-- THE TIED CARD OF 'roboticslaw30.LifecycleRoutes'. -/
def lifecycleRoutesCard : Claim7 := { stood := { row := lifecycleRoutesRow, standIns := [], harness := (true, "5b4ed54254e8c0121a764631ed731c39c22aaa096f12a4b0f471701693706c1e"), looks := false }, kinds := [], alts := [], laidByText := true, laidKinds := [.data], laidTests := true, laidLooks := .later }
def LifecycleRoutesCardSaid : Prop := Claim7.holds Tryd.pinned (.plain (OpenSpec.ofChange lifecycleRoutesSpec)) lifecycleRoutesCard

/-- THE TIED CARD OF 'roboticslaw30.LifecyclePlays'. -/
def lifecyclePlaysCard : Claim7 := { stood := { row := lifecyclePlaysRow, standIns := [], harness := (true, "5b4ed54254e8c0121a764631ed731c39c22aaa096f12a4b0f471701693706c1e"), looks := false }, kinds := [], alts := [], laidByText := true, laidKinds := [.data], laidTests := true, laidLooks := .later }
def LifecyclePlaysCardSaid : Prop := Claim7.holds Tryd.pinned (.plain (OpenSpec.ofChange lifecyclePlaysSpec)) lifecyclePlaysCard

/-- THE TIED CARD OF 'roboticslaw30.LifecycleEnds'. -/
def lifecycleEndsCard : Claim7 := { stood := { row := lifecycleEndsRow, standIns := [], harness := (true, "5b4ed54254e8c0121a764631ed731c39c22aaa096f12a4b0f471701693706c1e"), looks := false }, kinds := [], alts := [], laidByText := true, laidKinds := [.data], laidTests := true, laidLooks := .later }
def LifecycleEndsCardSaid : Prop := Claim7.holds Tryd.pinned (.plain (OpenSpec.ofChange lifecycleEndsSpec)) lifecycleEndsCard

/-- THE TIED CARD OF 'roboticslaw30.LifecycleSteps'. -/
def lifecycleStepsCard : Claim7 := { stood := { row := lifecycleStepsRow, standIns := [], harness := (true, "5b4ed54254e8c0121a764631ed731c39c22aaa096f12a4b0f471701693706c1e"), looks := false }, kinds := [], alts := [], laidByText := true, laidKinds := [.data], laidTests := true, laidLooks := .later }
def LifecycleStepsCardSaid : Prop := Claim7.holds Tryd.pinned (.plain (OpenSpec.ofChange lifecycleStepsSpec)) lifecycleStepsCard

/-- THE SECOND FORM's CARD OF 'roboticslaw30.LifecycleRoutes'. -/
def lifecycleRoutesUptoCard : Claim7 := { stood := { row := lifecycleRoutesUptoRow, standIns := [], harness := (true, "5b4ed54254e8c0121a764631ed731c39c22aaa096f12a4b0f471701693706c1e"), looks := false }, kinds := [], alts := [], laidByText := true, laidKinds := [.data], laidTests := true, laidLooks := .later }
def LifecycleRoutesUptoCardSaid : Prop := Claim7.holds Tryd.pinned (.plain (OpenSpec.upto lifecycleRoutesSpec)) lifecycleRoutesUptoCard

/-- THE SECOND FORM's CARD OF 'roboticslaw30.LifecyclePlays'. -/
def lifecyclePlaysUptoCard : Claim7 := { stood := { row := lifecyclePlaysUptoRow, standIns := [], harness := (true, "5b4ed54254e8c0121a764631ed731c39c22aaa096f12a4b0f471701693706c1e"), looks := false }, kinds := [], alts := [], laidByText := true, laidKinds := [.data], laidTests := true, laidLooks := .later }
def LifecyclePlaysUptoCardSaid : Prop := Claim7.holds Tryd.pinned (.plain (OpenSpec.upto lifecyclePlaysSpec)) lifecyclePlaysUptoCard

/-- THE SECOND FORM's CARD OF 'roboticslaw30.LifecycleEnds'. -/
def lifecycleEndsUptoCard : Claim7 := { stood := { row := lifecycleEndsUptoRow, standIns := [], harness := (true, "5b4ed54254e8c0121a764631ed731c39c22aaa096f12a4b0f471701693706c1e"), looks := false }, kinds := [], alts := [], laidByText := true, laidKinds := [.data], laidTests := true, laidLooks := .later }
def LifecycleEndsUptoCardSaid : Prop := Claim7.holds Tryd.pinned (.plain (OpenSpec.upto lifecycleEndsSpec)) lifecycleEndsUptoCard

/-- THE SECOND FORM's CARD OF 'roboticslaw30.LifecycleSteps'. -/
def lifecycleStepsUptoCard : Claim7 := { stood := { row := lifecycleStepsUptoRow, standIns := [], harness := (true, "5b4ed54254e8c0121a764631ed731c39c22aaa096f12a4b0f471701693706c1e"), looks := false }, kinds := [], alts := [], laidByText := true, laidKinds := [.data], laidTests := true, laidLooks := .later }
def LifecycleStepsUptoCardSaid : Prop := Claim7.holds Tryd.pinned (.plain (OpenSpec.upto lifecycleStepsSpec)) lifecycleStepsUptoCard
end Rows
end Go.Proofs.YthklehpekglohaaDoor
