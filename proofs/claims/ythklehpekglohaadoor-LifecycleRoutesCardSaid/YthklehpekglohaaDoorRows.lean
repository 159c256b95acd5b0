/-
  NARROWER THAN 'FOR EVERY INPUT', by the rows' own cells (each row's printed sentence says how): LifecycleRoutes: laid · LifecyclePlays: laid · LifecycleEnds: laid · LifecycleSteps: laid.
  DERIVED. THE GIVEN ROWS OF THIS SEAT. 4 by the template 'for every input the law returns true; each argument reads behind the call as it read before'; 0 by the template 'total and deterministic' (their statements: YthklehpekglohaaDoorTotals.lean).
  GIVEN WITH THE SEED: the statements are not yours to turn. If you find one false, say at which input.
  Laid BY PROGRAM, IN A SANDBOX (cutbox-rows.mjs): the forced cells as the released guide's own fill.sh prints them over the translation 24602f9b43ced606… (all of the seat's roots in one cut). By AI agents, Wed Nov 11 2026. No macro, syntax, notation, axiom, sorry.
-/
import Derived.Test.YthklehpekglohaaDoorChecked
import GoSem.Claim
import GoSem.ClaimJoined
import GoSem.ClaimMapViews
import Derived.JoinedTies
import Derived.KernelRfl
namespace Go.Proofs.YthklehpekglohaaDoor
/- THE CELL 'sum', in the pinned program and in every row, IS THE sha256 OF THE DUMP (.gsa) THAT YthklehpekglohaaDoorProg.lean LOADS. Nothing in Lean hashes anything: it is a label: what it is worth is what the hold of that sum in a sandbox is worth. -/
noncomputable def Tryd.pinned : Pinned := { name := "ythklehpekglohaadoor", sum := "24602f9b43ced606aa2aafab211b482fcbddbbf017af83d5d049db1d6007c811", checked := Tryd.checked }
namespace Rows
def none {H : Type} : Left H := { results := [], args := [] }

/- WHAT THE LISTED PACKAGE-LEVEL VARIABLES READ AS WHEN THE CALL BEGINS. Each datum BY PROGRAM (the guide's laid-datum.mjs) off the statement by which the dump's own 'gosem.cut.vars' lays the variable. In a bare row this is a premise. The card (YthklehpekglohaaDoorCards.lean) ties it to the program's text. -/
def laid_robotics_lifecycle_rules {H : Type} : DataW H := .agg [.agg [.agg [.lit (.bool true), .lit (.bool false), .lit (.bool false), .lit (.bool false)], .lit (.int .i64 2), .lit (.int .i64 1)], .agg [.agg [.lit (.bool false), .lit (.bool true), .lit (.bool false), .lit (.bool false)], .lit (.int .i64 3), .lit (.int .i64 2)], .agg [.agg [.lit (.bool false), .lit (.bool false), .lit (.bool true), .lit (.bool false)], .lit (.int .i64 2), .lit (.int .i64 1)], .agg [.agg [.lit (.bool false), .lit (.bool true), .lit (.bool false), .lit (.bool false)], .lit (.int .i64 1), .lit (.int .i64 1)], .agg [.agg [.lit (.bool true), .lit (.bool true), .lit (.bool true), .lit (.bool false)], .lit (.int .i64 4), .lit (.int .i64 4)]]

/-- 'roboticslaw30.LifecycleRoutes': WHATEVER THE INPUT: true; the input reads as it did. -/
def lifecycleRoutesSpec : ChangeSpec := { name := "lifecycleRoutes", fn := fun _ => fun
  | [d1, d2, d3] => { results := [.lit (.bool true)], args := [d1, d2, d3] }
  | _ => none }
def lifecycleRoutesRow : OpenClaim := { program := "ythklehpekglohaadoor", sum := "24602f9b43ced606aa2aafab211b482fcbddbbf017af83d5d049db1d6007c811", func := "robotics/roboticslaw30.LifecycleRoutes", spec := "lifecycleRoutes", recurses := true, named := ["robotics/lifecycle.rules"], apart := false, laid := [("robotics/lifecycle.rules", laid_robotics_lifecycle_rules)] }
def LifecycleRoutesSaid : Prop := lifecycleRoutesRow.holds Tryd.pinned (OpenSpec.ofChange lifecycleRoutesSpec)

/-- ITS FALSE NEIGHBOUR: 'it returns false'. Refute it at one input. -/
def lifecycleRoutesWrong : ChangeSpec := { name := "lifecycleRoutes", fn := fun _ => fun
  | [d1, d2, d3] => { results := [.lit (.bool false)], args := [d1, d2, d3] }
  | _ => none }
def LifecycleRoutesWrongFalsely : Prop := lifecycleRoutesRow.holds Tryd.pinned (OpenSpec.ofChange lifecycleRoutesWrong)

/-- 'roboticslaw30.LifecyclePlays': WHATEVER THE INPUT: true; the input reads as it did. -/
def lifecyclePlaysSpec : ChangeSpec := { name := "lifecyclePlays", fn := fun _ => fun
  | [d] => { results := [.lit (.bool true)], args := [d] }
  | _ => none }
def lifecyclePlaysRow : OpenClaim := { program := "ythklehpekglohaadoor", sum := "24602f9b43ced606aa2aafab211b482fcbddbbf017af83d5d049db1d6007c811", func := "robotics/roboticslaw30.LifecyclePlays", spec := "lifecyclePlays", named := ["robotics/lifecycle.rules"], apart := false, laid := [("robotics/lifecycle.rules", laid_robotics_lifecycle_rules)] }
def LifecyclePlaysSaid : Prop := lifecyclePlaysRow.holds Tryd.pinned (OpenSpec.ofChange lifecyclePlaysSpec)

/-- ITS FALSE NEIGHBOUR: 'it returns false'. Refute it at one input. -/
def lifecyclePlaysWrong : ChangeSpec := { name := "lifecyclePlays", fn := fun _ => fun
  | [d] => { results := [.lit (.bool false)], args := [d] }
  | _ => none }
def LifecyclePlaysWrongFalsely : Prop := lifecyclePlaysRow.holds Tryd.pinned (OpenSpec.ofChange lifecyclePlaysWrong)

/-- 'roboticslaw30.LifecycleEnds': WHATEVER THE INPUT: true; the input reads as it did. -/
def lifecycleEndsSpec : ChangeSpec := { name := "lifecycleEnds", fn := fun _ => fun
  | [d] => { results := [.lit (.bool true)], args := [d] }
  | _ => none }
def lifecycleEndsRow : OpenClaim := { program := "ythklehpekglohaadoor", sum := "24602f9b43ced606aa2aafab211b482fcbddbbf017af83d5d049db1d6007c811", func := "robotics/roboticslaw30.LifecycleEnds", spec := "lifecycleEnds", named := ["robotics/lifecycle.rules"], apart := false, laid := [("robotics/lifecycle.rules", laid_robotics_lifecycle_rules)] }
def LifecycleEndsSaid : Prop := lifecycleEndsRow.holds Tryd.pinned (OpenSpec.ofChange lifecycleEndsSpec)

/-- ITS FALSE NEIGHBOUR: 'it returns false'. Refute it at one input. -/
def lifecycleEndsWrong : ChangeSpec := { name := "lifecycleEnds", fn := fun _ => fun
  | [d] => { results := [.lit (.bool false)], args := [d] }
  | _ => none }
def LifecycleEndsWrongFalsely : Prop := lifecycleEndsRow.holds Tryd.pinned (OpenSpec.ofChange lifecycleEndsWrong)

/-- 'roboticslaw30.LifecycleSteps': WHATEVER THE INPUT: true; the input reads as it did. -/
def lifecycleStepsSpec : ChangeSpec := { name := "lifecycleSteps", fn := fun _ => fun
  | [d1, d2, d3] => { results := [.lit (.bool true)], args := [d1, d2, d3] }
  | _ => none }
def lifecycleStepsRow : OpenClaim := { program := "ythklehpekglohaadoor", sum := "24602f9b43ced606aa2aafab211b482fcbddbbf017af83d5d049db1d6007c811", func := "robotics/roboticslaw30.LifecycleSteps", spec := "lifecycleSteps", named := ["robotics/lifecycle.rules"], apart := false, laid := [("robotics/lifecycle.rules", laid_robotics_lifecycle_rules)] }
def LifecycleStepsSaid : Prop := lifecycleStepsRow.holds Tryd.pinned (OpenSpec.ofChange lifecycleStepsSpec)

/-- ITS FALSE NEIGHBOUR: 'it returns false'. Refute it at one input. -/
def lifecycleStepsWrong : ChangeSpec := { name := "lifecycleSteps", fn := fun _ => fun
  | [d1, d2, d3] => { results := [.lit (.bool false)], args := [d1, d2, d3] }
  | _ => none }
def LifecycleStepsWrongFalsely : Prop := lifecycleStepsRow.holds Tryd.pinned (OpenSpec.ofChange lifecycleStepsWrong)

/- THE SECOND FORM. 'bulk': how many values and letters a reading holds, each counted each time it is reached (what is shared counts as often as it is met; a slice's spare places count too). A statement '..UptoSaid' is the law's where the arguments, and the package variables that the reading takes, are together of bulk at most 1048576: NARROWER than '..Said'. Prove '..Said' where nothing that the law and all that it calls make is longer than what came in: it says more and counts as full. Else prove '..UptoSaid'. A law counts once. -/
mutual
def uptoBulk {H : Type} : DataW H → Nat
  | .lit (.string bytes) => bytes.length + 1
  | .lit _ => 1
  | .nil => 1
  | .ptr d => uptoBulk d + 1
  | .slice elems spare => uptoBulkAll elems + uptoBulkAll spare + 1
  | .agg parts => uptoBulkAll parts + 1
  | .iface _ d => uptoBulk d + 1
  | .map entries => uptoBulkEntries entries + 1
  | .held _ => 1
def uptoBulkAll {H : Type} : List (DataW H) → Nat
  | [] => 0
  | d :: r => uptoBulk d + uptoBulkAll r
def uptoBulkEntries {H : Type} : List (Lit × DataW H) → Nat
  | [] => 0
  | x :: r => uptoBulkEntry x + uptoBulkEntries r
def uptoBulkEntry {H : Type} : Lit × DataW H → Nat
  | (.string bytes, d) => bytes.length + uptoBulk d + 1
  | (_, d) => uptoBulk d + 1
 end
def uptoSmall : (H : Type) → List (DataW H) → Bool := fun _ ds => decide (uptoBulkAll ds ≤ 1048576)
def OpenSpec.upto (s : _root_.Go.ChangeSpec) : _root_.Go.OpenSpec := { _root_.Go.OpenSpec.ofChange s with cond := some uptoSmall }

/-- 'roboticslaw30.LifecycleRoutes', WHERE WHAT IT READS IS OF BULK AT MOST 1048576: true; the input reads as it did. -/
def lifecycleRoutesUptoRow : OpenClaim := { program := "ythklehpekglohaadoor", sum := "24602f9b43ced606aa2aafab211b482fcbddbbf017af83d5d049db1d6007c811", func := "robotics/roboticslaw30.LifecycleRoutes", spec := "lifecycleRoutes", recurses := true, named := ["robotics/lifecycle.rules"], apart := false, laid := [("robotics/lifecycle.rules", laid_robotics_lifecycle_rules)], narrowed := true }
def LifecycleRoutesUptoSaid : Prop := lifecycleRoutesUptoRow.holds Tryd.pinned (OpenSpec.upto lifecycleRoutesSpec)

/-- 'roboticslaw30.LifecyclePlays', WHERE WHAT IT READS IS OF BULK AT MOST 1048576: true; the input reads as it did. -/
def lifecyclePlaysUptoRow : OpenClaim := { program := "ythklehpekglohaadoor", sum := "24602f9b43ced606aa2aafab211b482fcbddbbf017af83d5d049db1d6007c811", func := "robotics/roboticslaw30.LifecyclePlays", spec := "lifecyclePlays", named := ["robotics/lifecycle.rules"], apart := false, laid := [("robotics/lifecycle.rules", laid_robotics_lifecycle_rules)], narrowed := true }
def LifecyclePlaysUptoSaid : Prop := lifecyclePlaysUptoRow.holds Tryd.pinned (OpenSpec.upto lifecyclePlaysSpec)

/-- 'roboticslaw30.LifecycleEnds', WHERE WHAT IT READS IS OF BULK AT MOST 1048576: true; the input reads as it did. -/
def lifecycleEndsUptoRow : OpenClaim := { program := "ythklehpekglohaadoor", sum := "24602f9b43ced606aa2aafab211b482fcbddbbf017af83d5d049db1d6007c811", func := "robotics/roboticslaw30.LifecycleEnds", spec := "lifecycleEnds", named := ["robotics/lifecycle.rules"], apart := false, laid := [("robotics/lifecycle.rules", laid_robotics_lifecycle_rules)], narrowed := true }
def LifecycleEndsUptoSaid : Prop := lifecycleEndsUptoRow.holds Tryd.pinned (OpenSpec.upto lifecycleEndsSpec)

/-- 'roboticslaw30.LifecycleSteps', WHERE WHAT IT READS IS OF BULK AT MOST 1048576: true; the input reads as it did. -/
def lifecycleStepsUptoRow : OpenClaim := { program := "ythklehpekglohaadoor", sum := "24602f9b43ced606aa2aafab211b482fcbddbbf017af83d5d049db1d6007c811", func := "robotics/roboticslaw30.LifecycleSteps", spec := "lifecycleSteps", named := ["robotics/lifecycle.rules"], apart := false, laid := [("robotics/lifecycle.rules", laid_robotics_lifecycle_rules)], narrowed := true }
def LifecycleStepsUptoSaid : Prop := lifecycleStepsUptoRow.holds Tryd.pinned (OpenSpec.upto lifecycleStepsSpec)

end Rows
end Go.Proofs.YthklehpekglohaaDoor
