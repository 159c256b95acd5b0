/-
  No cell of these rows narrows 'for every input' (looked for: loops, veiled, ifaces, maps, wideKeys, modest, calm, conditions, laid).
  DERIVED. THE GIVEN ROWS OF THIS SEAT. 4 by the template 'for every input the law returns true; each argument reads behind the call as it read before'; 0 by the template 'total and deterministic' (their statements: YtdcclpdnnhaeoaaTotals.lean).
  GIVEN WITH THE SEED: the statements are not yours to turn. If you find one false, say at which input.
  Laid BY PROGRAM, IN A SANDBOX (cutbox-rows.mjs): the forced cells as the released guide's own fill.sh prints them over the translation 02ae0263582a512a… (all of the seat's roots in one cut). By AI agents, Wed Nov 11 2026. No macro, syntax, notation, axiom, sorry.
-/
import Derived.Test.YtdcclpdnnhaeoaaChecked
import GoSem.Claim
import GoSem.ClaimJoined
import GoSem.ClaimMapViews
import Derived.JoinedTies
import Derived.KernelRfl
namespace Go.Proofs.Ytdcclpdnnhaeoaa
/- THE CELL 'sum', in the pinned program and in every row, IS THE sha256 OF THE DUMP (.gsa) THAT YtdcclpdnnhaeoaaProg.lean LOADS. Nothing in Lean hashes anything: it is a label: what it is worth is what the hold of that sum in a sandbox is worth. -/
noncomputable def Try.pinned : Pinned := { name := "ytdcclpdnnhaeoaa", sum := "02ae0263582a512aeb980283e374396ed4fd589474ea04220b3184dd04ca2b89", checked := Try.checked }
namespace Rows
def none {H : Type} : Left H := { results := [], args := [] }

/-- 'roboticslaw49.TrackerRefuses': WHATEVER THE INPUT: true; the input reads as it did. -/
def trackerRefusesSpec : ChangeSpec := { name := "trackerRefuses", fn := fun _ => fun
  | [d1, d2] => { results := [.lit (.bool true)], args := [d1, d2] }
  | _ => none }
def trackerRefusesRow : OpenClaim := { program := "ytdcclpdnnhaeoaa", sum := "02ae0263582a512aeb980283e374396ed4fd589474ea04220b3184dd04ca2b89", func := "robotics/roboticslaw49.TrackerRefuses", spec := "trackerRefuses", apart := false }
def TrackerRefusesSaid : Prop := trackerRefusesRow.holds Try.pinned (OpenSpec.ofChange trackerRefusesSpec)

/-- ITS FALSE NEIGHBOUR: 'it returns false'. Refute it at one input. -/
def trackerRefusesWrong : ChangeSpec := { name := "trackerRefuses", fn := fun _ => fun
  | [d1, d2] => { results := [.lit (.bool false)], args := [d1, d2] }
  | _ => none }
def TrackerRefusesWrongFalsely : Prop := trackerRefusesRow.holds Try.pinned (OpenSpec.ofChange trackerRefusesWrong)

/-- 'roboticslaw49.TrackerCentres': WHATEVER THE INPUT: true; the input reads as it did. -/
def trackerCentresSpec : ChangeSpec := { name := "trackerCentres", fn := fun _ => fun
  | [d1, d2] => { results := [.lit (.bool true)], args := [d1, d2] }
  | _ => none }
def trackerCentresRow : OpenClaim := { program := "ytdcclpdnnhaeoaa", sum := "02ae0263582a512aeb980283e374396ed4fd589474ea04220b3184dd04ca2b89", func := "robotics/roboticslaw49.TrackerCentres", spec := "trackerCentres", apart := false }
def TrackerCentresSaid : Prop := trackerCentresRow.holds Try.pinned (OpenSpec.ofChange trackerCentresSpec)

/-- ITS FALSE NEIGHBOUR: 'it returns false'. Refute it at one input. -/
def trackerCentresWrong : ChangeSpec := { name := "trackerCentres", fn := fun _ => fun
  | [d1, d2] => { results := [.lit (.bool false)], args := [d1, d2] }
  | _ => none }
def TrackerCentresWrongFalsely : Prop := trackerCentresRow.holds Try.pinned (OpenSpec.ofChange trackerCentresWrong)

/-- 'roboticslaw49.TrackerPlays': WHATEVER THE INPUT: true; the input reads as it did. -/
def trackerPlaysSpec : ChangeSpec := { name := "trackerPlays", fn := fun _ => fun
  | [d1, d2] => { results := [.lit (.bool true)], args := [d1, d2] }
  | _ => none }
def trackerPlaysRow : OpenClaim := { program := "ytdcclpdnnhaeoaa", sum := "02ae0263582a512aeb980283e374396ed4fd589474ea04220b3184dd04ca2b89", func := "robotics/roboticslaw49.TrackerPlays", spec := "trackerPlays", apart := false }
def TrackerPlaysSaid : Prop := trackerPlaysRow.holds Try.pinned (OpenSpec.ofChange trackerPlaysSpec)

/-- ITS FALSE NEIGHBOUR: 'it returns false'. Refute it at one input. -/
def trackerPlaysWrong : ChangeSpec := { name := "trackerPlays", fn := fun _ => fun
  | [d1, d2] => { results := [.lit (.bool false)], args := [d1, d2] }
  | _ => none }
def TrackerPlaysWrongFalsely : Prop := trackerPlaysRow.holds Try.pinned (OpenSpec.ofChange trackerPlaysWrong)

/-- 'roboticslaw49.TrackerReaches': WHATEVER THE INPUT: true; the input reads as it did. -/
def trackerReachesSpec : ChangeSpec := { name := "trackerReaches", fn := fun _ => fun
  | [d1, d2, d3] => { results := [.lit (.bool true)], args := [d1, d2, d3] }
  | _ => none }
def trackerReachesRow : OpenClaim := { program := "ytdcclpdnnhaeoaa", sum := "02ae0263582a512aeb980283e374396ed4fd589474ea04220b3184dd04ca2b89", func := "robotics/roboticslaw49.TrackerReaches", spec := "trackerReaches", unfollowed := true, recurses := true, apart := false }
def TrackerReachesSaid : Prop := trackerReachesRow.holds Try.pinned (OpenSpec.ofChange trackerReachesSpec)

/-- ITS FALSE NEIGHBOUR: 'it returns false'. Refute it at one input. -/
def trackerReachesWrong : ChangeSpec := { name := "trackerReaches", fn := fun _ => fun
  | [d1, d2, d3] => { results := [.lit (.bool false)], args := [d1, d2, d3] }
  | _ => none }
def TrackerReachesWrongFalsely : Prop := trackerReachesRow.holds Try.pinned (OpenSpec.ofChange trackerReachesWrong)

/- THE SECOND FORM. 'bulk': how many values and letters a reading holds, each counted each time it is reached (what is shared counts as often as it is met; a slice's spare places count too). A statement '..UptoSaid' is the law's where the arguments, and the package variables that the reading takes, are together of bulk at most 1048576: NARROWER than '..Said'. Prove '..Said' where nothing that the law and all that it calls make is longer than what came in: it says more and counts as full. Else prove '..UptoSaid'. A law counts once. -/
mutual
def uptoBulk {H : Type} : DataW H → Nat
  | .lit (.string bytes) => bytes.length + 1
  | .lit _ => 1
  | .nil => 1
  | .ptr d => uptoBulk d + 1
  | .slice elems spare => uptoBulkAll elems + uptoBulkAll spare + 1
  | .agg parts => uptoBulkAll parts + 1
  | .iface _ d => uptoBulk d + 1
  | .map entries => uptoBulkEntries entries + 1
  | .held _ => 1
def uptoBulkAll {H : Type} : List (DataW H) → Nat
  | [] => 0
  | d :: r => uptoBulk d + uptoBulkAll r
def uptoBulkEntries {H : Type} : List (Lit × DataW H) → Nat
  | [] => 0
  | x :: r => uptoBulkEntry x + uptoBulkEntries r
def uptoBulkEntry {H : Type} : Lit × DataW H → Nat
  | (.string bytes, d) => bytes.length + uptoBulk d + 1
  | (_, d) => uptoBulk d + 1
 end
def uptoSmall : (H : Type) → List (DataW H) → Bool := fun _ ds => decide (uptoBulkAll ds ≤ 1048576)
def OpenSpec.upto (s : _root_.Go.ChangeSpec) : _root_.Go.OpenSpec := { _root_.Go.OpenSpec.ofChange s with cond := some uptoSmall }

/-- 'roboticslaw49.TrackerRefuses', WHERE WHAT IT READS IS OF BULK AT MOST 1048576: true; the input reads as it did. -/
def trackerRefusesUptoRow : OpenClaim := { program := "ytdcclpdnnhaeoaa", sum := "02ae0263582a512aeb980283e374396ed4fd589474ea04220b3184dd04ca2b89", func := "robotics/roboticslaw49.TrackerRefuses", spec := "trackerRefuses", apart := false, narrowed := true }
def TrackerRefusesUptoSaid : Prop := trackerRefusesUptoRow.holds Try.pinned (OpenSpec.upto trackerRefusesSpec)

/-- 'roboticslaw49.TrackerCentres', WHERE WHAT IT READS IS OF BULK AT MOST 1048576: true; the input reads as it did. -/
def trackerCentresUptoRow : OpenClaim := { program := "ytdcclpdnnhaeoaa", sum := "02ae0263582a512aeb980283e374396ed4fd589474ea04220b3184dd04ca2b89", func := "robotics/roboticslaw49.TrackerCentres", spec := "trackerCentres", apart := false, narrowed := true }
def TrackerCentresUptoSaid : Prop := trackerCentresUptoRow.holds Try.pinned (OpenSpec.upto trackerCentresSpec)

/-- 'roboticslaw49.TrackerPlays', WHERE WHAT IT READS IS OF BULK AT MOST 1048576: true; the input reads as it did. -/
def trackerPlaysUptoRow : OpenClaim := { program := "ytdcclpdnnhaeoaa", sum := "02ae0263582a512aeb980283e374396ed4fd589474ea04220b3184dd04ca2b89", func := "robotics/roboticslaw49.TrackerPlays", spec := "trackerPlays", apart := false, narrowed := true }
def TrackerPlaysUptoSaid : Prop := trackerPlaysUptoRow.holds Try.pinned (OpenSpec.upto trackerPlaysSpec)

/-- 'roboticslaw49.TrackerReaches', WHERE WHAT IT READS IS OF BULK AT MOST 1048576: true; the input reads as it did. -/
def trackerReachesUptoRow : OpenClaim := { program := "ytdcclpdnnhaeoaa", sum := "02ae0263582a512aeb980283e374396ed4fd589474ea04220b3184dd04ca2b89", func := "robotics/roboticslaw49.TrackerReaches", spec := "trackerReaches", unfollowed := true, recurses := true, apart := false, narrowed := true }
def TrackerReachesUptoSaid : Prop := trackerReachesUptoRow.holds Try.pinned (OpenSpec.upto trackerReachesSpec)

end Rows
end Go.Proofs.Ytdcclpdnnhaeoaa
