/-
  No cell of these rows narrows 'for every input' (looked for: loops, veiled, ifaces, maps, wideKeys, modest, calm, conditions, laid).
  DERIVED. THE GIVEN ROWS OF THIS SEAT. 7 by the template 'for every input the law returns true; each argument reads behind the call as it read before'; 0 by the template 'total and deterministic' (their statements: YthfpdlkeagoamaaTotals.lean).
  GIVEN WITH THE SEED: the statements are not yours to turn. If you find one false, say at which input.
  Laid BY PROGRAM, IN A SANDBOX (cutbox-rows.mjs): the forced cells as the released guide's own fill.sh prints them over the translation 832fbb8ddc47677a… (all of the seat's roots in one cut). By AI agents, Wed Nov 11 2026. No macro, syntax, notation, axiom, sorry.
-/
import Derived.Test.YthfpdlkeagoamaaChecked
import GoSem.Claim
import GoSem.ClaimJoined
import GoSem.ClaimMapViews
import Derived.JoinedTies
import Derived.KernelRfl
namespace Go.Proofs.Ythfpdlkeagoamaa
/- THE CELL 'sum', in the pinned program and in every row, IS THE sha256 OF THE DUMP (.gsa) THAT YthfpdlkeagoamaaProg.lean LOADS. Nothing in Lean hashes anything: it is a label: what it is worth is what the hold of that sum in a sandbox is worth. -/
noncomputable def Try.pinned : Pinned := { name := "ythfpdlkeagoamaa", sum := "832fbb8ddc47677acdbae2f9bc74acf4f1191226e7d0faec9d53f8852af0d347", checked := Try.checked }
namespace Rows
def none {H : Type} : Left H := { results := [], args := [] }

/-- 'roboticslaw48.MotionChecks': WHATEVER THE INPUT: true; the input reads as it did. -/
def motionChecksSpec : ChangeSpec := { name := "motionChecks", fn := fun _ => fun
  | [d1, d2] => { results := [.lit (.bool true)], args := [d1, d2] }
  | _ => none }
def motionChecksRow : OpenClaim := { program := "ythfpdlkeagoamaa", sum := "832fbb8ddc47677acdbae2f9bc74acf4f1191226e7d0faec9d53f8852af0d347", func := "robotics/roboticslaw48.MotionChecks", spec := "motionChecks", unfollowed := true, recurses := true, apart := false }
def MotionChecksSaid : Prop := motionChecksRow.holds Try.pinned (OpenSpec.ofChange motionChecksSpec)

/-- ITS FALSE NEIGHBOUR: 'it returns false'. Refute it at one input. -/
def motionChecksWrong : ChangeSpec := { name := "motionChecks", fn := fun _ => fun
  | [d1, d2] => { results := [.lit (.bool false)], args := [d1, d2] }
  | _ => none }
def MotionChecksWrongFalsely : Prop := motionChecksRow.holds Try.pinned (OpenSpec.ofChange motionChecksWrong)

/-- 'roboticslaw48.MotionLimits': WHATEVER THE INPUT: true; the input reads as it did. -/
def motionLimitsSpec : ChangeSpec := { name := "motionLimits", fn := fun _ => fun
  | [d1, d2, d3] => { results := [.lit (.bool true)], args := [d1, d2, d3] }
  | _ => none }
def motionLimitsRow : OpenClaim := { program := "ythfpdlkeagoamaa", sum := "832fbb8ddc47677acdbae2f9bc74acf4f1191226e7d0faec9d53f8852af0d347", func := "robotics/roboticslaw48.MotionLimits", spec := "motionLimits", unfollowed := true, recurses := true, apart := false }
def MotionLimitsSaid : Prop := motionLimitsRow.holds Try.pinned (OpenSpec.ofChange motionLimitsSpec)

/-- ITS FALSE NEIGHBOUR: 'it returns false'. Refute it at one input. -/
def motionLimitsWrong : ChangeSpec := { name := "motionLimits", fn := fun _ => fun
  | [d1, d2, d3] => { results := [.lit (.bool false)], args := [d1, d2, d3] }
  | _ => none }
def MotionLimitsWrongFalsely : Prop := motionLimitsRow.holds Try.pinned (OpenSpec.ofChange motionLimitsWrong)

/-- 'roboticslaw48.MotionSteady': WHATEVER THE INPUT: true; the input reads as it did. -/
def motionSteadySpec : ChangeSpec := { name := "motionSteady", fn := fun _ => fun
  | [d1, d2, d3] => { results := [.lit (.bool true)], args := [d1, d2, d3] }
  | _ => none }
def motionSteadyRow : OpenClaim := { program := "ythfpdlkeagoamaa", sum := "832fbb8ddc47677acdbae2f9bc74acf4f1191226e7d0faec9d53f8852af0d347", func := "robotics/roboticslaw48.MotionSteady", spec := "motionSteady", unfollowed := true, recurses := true, apart := false }
def MotionSteadySaid : Prop := motionSteadyRow.holds Try.pinned (OpenSpec.ofChange motionSteadySpec)

/-- ITS FALSE NEIGHBOUR: 'it returns false'. Refute it at one input. -/
def motionSteadyWrong : ChangeSpec := { name := "motionSteady", fn := fun _ => fun
  | [d1, d2, d3] => { results := [.lit (.bool false)], args := [d1, d2, d3] }
  | _ => none }
def MotionSteadyWrongFalsely : Prop := motionSteadyRow.holds Try.pinned (OpenSpec.ofChange motionSteadyWrong)

/-- 'roboticslaw48.MotionSteps': WHATEVER THE INPUT: true; the input reads as it did. -/
def motionStepsSpec : ChangeSpec := { name := "motionSteps", fn := fun _ => fun
  | [d1, d2, d3] => { results := [.lit (.bool true)], args := [d1, d2, d3] }
  | _ => none }
def motionStepsRow : OpenClaim := { program := "ythfpdlkeagoamaa", sum := "832fbb8ddc47677acdbae2f9bc74acf4f1191226e7d0faec9d53f8852af0d347", func := "robotics/roboticslaw48.MotionSteps", spec := "motionSteps", unfollowed := true, recurses := true, apart := false }
def MotionStepsSaid : Prop := motionStepsRow.holds Try.pinned (OpenSpec.ofChange motionStepsSpec)

/-- ITS FALSE NEIGHBOUR: 'it returns false'. Refute it at one input. -/
def motionStepsWrong : ChangeSpec := { name := "motionSteps", fn := fun _ => fun
  | [d1, d2, d3] => { results := [.lit (.bool false)], args := [d1, d2, d3] }
  | _ => none }
def MotionStepsWrongFalsely : Prop := motionStepsRow.holds Try.pinned (OpenSpec.ofChange motionStepsWrong)

/-- 'roboticslaw48.MotionStops': WHATEVER THE INPUT: true; the input reads as it did. -/
def motionStopsSpec : ChangeSpec := { name := "motionStops", fn := fun _ => fun
  | [d1, d2] => { results := [.lit (.bool true)], args := [d1, d2] }
  | _ => none }
def motionStopsRow : OpenClaim := { program := "ythfpdlkeagoamaa", sum := "832fbb8ddc47677acdbae2f9bc74acf4f1191226e7d0faec9d53f8852af0d347", func := "robotics/roboticslaw48.MotionStops", spec := "motionStops", unfollowed := true, recurses := true, apart := false }
def MotionStopsSaid : Prop := motionStopsRow.holds Try.pinned (OpenSpec.ofChange motionStopsSpec)

/-- ITS FALSE NEIGHBOUR: 'it returns false'. Refute it at one input. -/
def motionStopsWrong : ChangeSpec := { name := "motionStops", fn := fun _ => fun
  | [d1, d2] => { results := [.lit (.bool false)], args := [d1, d2] }
  | _ => none }
def MotionStopsWrongFalsely : Prop := motionStopsRow.holds Try.pinned (OpenSpec.ofChange motionStopsWrong)

/-- 'roboticslaw48.MotionRuns': WHATEVER THE INPUT: true; the input reads as it did. -/
def motionRunsSpec : ChangeSpec := { name := "motionRuns", fn := fun _ => fun
  | [d1, d2, d3] => { results := [.lit (.bool true)], args := [d1, d2, d3] }
  | _ => none }
def motionRunsRow : OpenClaim := { program := "ythfpdlkeagoamaa", sum := "832fbb8ddc47677acdbae2f9bc74acf4f1191226e7d0faec9d53f8852af0d347", func := "robotics/roboticslaw48.MotionRuns", spec := "motionRuns", unfollowed := true, recurses := true, apart := false }
def MotionRunsSaid : Prop := motionRunsRow.holds Try.pinned (OpenSpec.ofChange motionRunsSpec)

/-- ITS FALSE NEIGHBOUR: 'it returns false'. Refute it at one input. -/
def motionRunsWrong : ChangeSpec := { name := "motionRuns", fn := fun _ => fun
  | [d1, d2, d3] => { results := [.lit (.bool false)], args := [d1, d2, d3] }
  | _ => none }
def MotionRunsWrongFalsely : Prop := motionRunsRow.holds Try.pinned (OpenSpec.ofChange motionRunsWrong)

/-- 'roboticslaw48.MotionCollides': WHATEVER THE INPUT: true; the input reads as it did. -/
def motionCollidesSpec : ChangeSpec := { name := "motionCollides", fn := fun _ => fun
  | [d1, d2, d3] => { results := [.lit (.bool true)], args := [d1, d2, d3] }
  | _ => none }
def motionCollidesRow : OpenClaim := { program := "ythfpdlkeagoamaa", sum := "832fbb8ddc47677acdbae2f9bc74acf4f1191226e7d0faec9d53f8852af0d347", func := "robotics/roboticslaw48.MotionCollides", spec := "motionCollides", unfollowed := true, recurses := true, apart := false }
def MotionCollidesSaid : Prop := motionCollidesRow.holds Try.pinned (OpenSpec.ofChange motionCollidesSpec)

/-- ITS FALSE NEIGHBOUR: 'it returns false'. Refute it at one input. -/
def motionCollidesWrong : ChangeSpec := { name := "motionCollides", fn := fun _ => fun
  | [d1, d2, d3] => { results := [.lit (.bool false)], args := [d1, d2, d3] }
  | _ => none }
def MotionCollidesWrongFalsely : Prop := motionCollidesRow.holds Try.pinned (OpenSpec.ofChange motionCollidesWrong)

/- THE SECOND FORM. 'bulk': how many values and letters a reading holds, each counted each time it is reached (what is shared counts as often as it is met; a slice's spare places count too). A statement '..UptoSaid' is the law's where the arguments, and the package variables that the reading takes, are together of bulk at most 1048576: NARROWER than '..Said'. Prove '..Said' where nothing that the law and all that it calls make is longer than what came in: it says more and counts as full. Else prove '..UptoSaid'. A law counts once. -/
mutual
def uptoBulk {H : Type} : DataW H → Nat
  | .lit (.string bytes) => bytes.length + 1
  | .lit _ => 1
  | .nil => 1
  | .ptr d => uptoBulk d + 1
  | .slice elems spare => uptoBulkAll elems + uptoBulkAll spare + 1
  | .agg parts => uptoBulkAll parts + 1
  | .iface _ d => uptoBulk d + 1
  | .map entries => uptoBulkEntries entries + 1
  | .held _ => 1
def uptoBulkAll {H : Type} : List (DataW H) → Nat
  | [] => 0
  | d :: r => uptoBulk d + uptoBulkAll r
def uptoBulkEntries {H : Type} : List (Lit × DataW H) → Nat
  | [] => 0
  | x :: r => uptoBulkEntry x + uptoBulkEntries r
def uptoBulkEntry {H : Type} : Lit × DataW H → Nat
  | (.string bytes, d) => bytes.length + uptoBulk d + 1
  | (_, d) => uptoBulk d + 1
 end
def uptoSmall : (H : Type) → List (DataW H) → Bool := fun _ ds => decide (uptoBulkAll ds ≤ 1048576)
def OpenSpec.upto (s : _root_.Go.ChangeSpec) : _root_.Go.OpenSpec := { _root_.Go.OpenSpec.ofChange s with cond := some uptoSmall }

/-- 'roboticslaw48.MotionChecks', WHERE WHAT IT READS IS OF BULK AT MOST 1048576: true; the input reads as it did. -/
def motionChecksUptoRow : OpenClaim := { program := "ythfpdlkeagoamaa", sum := "832fbb8ddc47677acdbae2f9bc74acf4f1191226e7d0faec9d53f8852af0d347", func := "robotics/roboticslaw48.MotionChecks", spec := "motionChecks", unfollowed := true, recurses := true, apart := false, narrowed := true }
def MotionChecksUptoSaid : Prop := motionChecksUptoRow.holds Try.pinned (OpenSpec.upto motionChecksSpec)

/-- 'roboticslaw48.MotionLimits', WHERE WHAT IT READS IS OF BULK AT MOST 1048576: true; the input reads as it did. -/
def motionLimitsUptoRow : OpenClaim := { program := "ythfpdlkeagoamaa", sum := "832fbb8ddc47677acdbae2f9bc74acf4f1191226e7d0faec9d53f8852af0d347", func := "robotics/roboticslaw48.MotionLimits", spec := "motionLimits", unfollowed := true, recurses := true, apart := false, narrowed := true }
def MotionLimitsUptoSaid : Prop := motionLimitsUptoRow.holds Try.pinned (OpenSpec.upto motionLimitsSpec)

/-- 'roboticslaw48.MotionSteady', WHERE WHAT IT READS IS OF BULK AT MOST 1048576: true; the input reads as it did. -/
def motionSteadyUptoRow : OpenClaim := { program := "ythfpdlkeagoamaa", sum := "832fbb8ddc47677acdbae2f9bc74acf4f1191226e7d0faec9d53f8852af0d347", func := "robotics/roboticslaw48.MotionSteady", spec := "motionSteady", unfollowed := true, recurses := true, apart := false, narrowed := true }
def MotionSteadyUptoSaid : Prop := motionSteadyUptoRow.holds Try.pinned (OpenSpec.upto motionSteadySpec)

/-- 'roboticslaw48.MotionSteps', WHERE WHAT IT READS IS OF BULK AT MOST 1048576: true; the input reads as it did. -/
def motionStepsUptoRow : OpenClaim := { program := "ythfpdlkeagoamaa", sum := "832fbb8ddc47677acdbae2f9bc74acf4f1191226e7d0faec9d53f8852af0d347", func := "robotics/roboticslaw48.MotionSteps", spec := "motionSteps", unfollowed := true, recurses := true, apart := false, narrowed := true }
def MotionStepsUptoSaid : Prop := motionStepsUptoRow.holds Try.pinned (OpenSpec.upto motionStepsSpec)

/-- 'roboticslaw48.MotionStops', WHERE WHAT IT READS IS OF BULK AT MOST 1048576: true; the input reads as it did. -/
def motionStopsUptoRow : OpenClaim := { program := "ythfpdlkeagoamaa", sum := "832fbb8ddc47677acdbae2f9bc74acf4f1191226e7d0faec9d53f8852af0d347", func := "robotics/roboticslaw48.MotionStops", spec := "motionStops", unfollowed := true, recurses := true, apart := false, narrowed := true }
def MotionStopsUptoSaid : Prop := motionStopsUptoRow.holds Try.pinned (OpenSpec.upto motionStopsSpec)

/-- 'roboticslaw48.MotionRuns', WHERE WHAT IT READS IS OF BULK AT MOST 1048576: true; the input reads as it did. -/
def motionRunsUptoRow : OpenClaim := { program := "ythfpdlkeagoamaa", sum := "832fbb8ddc47677acdbae2f9bc74acf4f1191226e7d0faec9d53f8852af0d347", func := "robotics/roboticslaw48.MotionRuns", spec := "motionRuns", unfollowed := true, recurses := true, apart := false, narrowed := true }
def MotionRunsUptoSaid : Prop := motionRunsUptoRow.holds Try.pinned (OpenSpec.upto motionRunsSpec)

/-- 'roboticslaw48.MotionCollides', WHERE WHAT IT READS IS OF BULK AT MOST 1048576: true; the input reads as it did. -/
def motionCollidesUptoRow : OpenClaim := { program := "ythfpdlkeagoamaa", sum := "832fbb8ddc47677acdbae2f9bc74acf4f1191226e7d0faec9d53f8852af0d347", func := "robotics/roboticslaw48.MotionCollides", spec := "motionCollides", unfollowed := true, recurses := true, apart := false, narrowed := true }
def MotionCollidesUptoSaid : Prop := motionCollidesUptoRow.holds Try.pinned (OpenSpec.upto motionCollidesSpec)

end Rows
end Go.Proofs.Ythfpdlkeagoamaa
