/-
  No cell of these rows narrows 'for every input' (looked for: loops, veiled, ifaces, maps, wideKeys, modest, calm, conditions, laid).
  DERIVED. THE GIVEN ROWS OF THIS SEAT. 7 by the template 'for every input the law returns true; each argument reads behind the call as it read before'; 0 by the template 'total and deterministic' (their statements: YtanaficinidffaaTotals.lean).
  GIVEN WITH THE SEED: the statements are not yours to turn. If you find one false, say at which input.
  Laid BY PROGRAM, IN A SANDBOX (cutbox-rows.mjs): the forced cells as the released guide's own fill.sh prints them over the translation d4c33787f78bc251… (all of the seat's roots in one cut). By AI agents, Wed Nov 11 2026. No macro, syntax, notation, axiom, sorry.
-/
import Derived.Test.YtanaficinidffaaChecked
import GoSem.Claim
import GoSem.ClaimJoined
import GoSem.ClaimMapViews
import Derived.JoinedTies
import Derived.KernelRfl
namespace Go.Proofs.Ytanaficinidffaa
/- THE CELL 'sum', in the pinned program and in every row, IS THE sha256 OF THE DUMP (.gsa) THAT YtanaficinidffaaProg.lean LOADS. Nothing in Lean hashes anything: it is a label: what it is worth is what the hold of that sum in a sandbox is worth. -/
noncomputable def Try.pinned : Pinned := { name := "ytanaficinidffaa", sum := "d4c33787f78bc2519fc071095cef7e7963543a7233376401f11f200fb2411aad", checked := Try.checked }
namespace Rows
def none {H : Type} : Left H := { results := [], args := [] }

/-- 'roboticslaw47.BrakingSafe': WHATEVER THE INPUT: true; the input reads as it did. -/
def brakingSafeSpec : ChangeSpec := { name := "brakingSafe", fn := fun _ => fun
  | [d1, d2, d3] => { results := [.lit (.bool true)], args := [d1, d2, d3] }
  | _ => none }
def brakingSafeRow : OpenClaim := { program := "ytanaficinidffaa", sum := "d4c33787f78bc2519fc071095cef7e7963543a7233376401f11f200fb2411aad", func := "robotics/roboticslaw47.BrakingSafe", spec := "brakingSafe", apart := false }
def BrakingSafeSaid : Prop := brakingSafeRow.holds Try.pinned (OpenSpec.ofChange brakingSafeSpec)

/-- ITS FALSE NEIGHBOUR: 'it returns false'. Refute it at one input. -/
def brakingSafeWrong : ChangeSpec := { name := "brakingSafe", fn := fun _ => fun
  | [d1, d2, d3] => { results := [.lit (.bool false)], args := [d1, d2, d3] }
  | _ => none }
def BrakingSafeWrongFalsely : Prop := brakingSafeRow.holds Try.pinned (OpenSpec.ofChange brakingSafeWrong)

/-- 'roboticslaw47.BrakingDistances': WHATEVER THE INPUT: true; the input reads as it did. -/
def brakingDistancesSpec : ChangeSpec := { name := "brakingDistances", fn := fun _ => fun
  | [d1, d2, d3] => { results := [.lit (.bool true)], args := [d1, d2, d3] }
  | _ => none }
def brakingDistancesRow : OpenClaim := { program := "ytanaficinidffaa", sum := "d4c33787f78bc2519fc071095cef7e7963543a7233376401f11f200fb2411aad", func := "robotics/roboticslaw47.BrakingDistances", spec := "brakingDistances", apart := false }
def BrakingDistancesSaid : Prop := brakingDistancesRow.holds Try.pinned (OpenSpec.ofChange brakingDistancesSpec)

/-- ITS FALSE NEIGHBOUR: 'it returns false'. Refute it at one input. -/
def brakingDistancesWrong : ChangeSpec := { name := "brakingDistances", fn := fun _ => fun
  | [d1, d2, d3] => { results := [.lit (.bool false)], args := [d1, d2, d3] }
  | _ => none }
def BrakingDistancesWrongFalsely : Prop := brakingDistancesRow.holds Try.pinned (OpenSpec.ofChange brakingDistancesWrong)

/-- 'roboticslaw47.BrakingNeeds': WHATEVER THE INPUT: true; the input reads as it did. -/
def brakingNeedsSpec : ChangeSpec := { name := "brakingNeeds", fn := fun _ => fun
  | [d1, d2, d3] => { results := [.lit (.bool true)], args := [d1, d2, d3] }
  | _ => none }
def brakingNeedsRow : OpenClaim := { program := "ytanaficinidffaa", sum := "d4c33787f78bc2519fc071095cef7e7963543a7233376401f11f200fb2411aad", func := "robotics/roboticslaw47.BrakingNeeds", spec := "brakingNeeds", apart := false }
def BrakingNeedsSaid : Prop := brakingNeedsRow.holds Try.pinned (OpenSpec.ofChange brakingNeedsSpec)

/-- ITS FALSE NEIGHBOUR: 'it returns false'. Refute it at one input. -/
def brakingNeedsWrong : ChangeSpec := { name := "brakingNeeds", fn := fun _ => fun
  | [d1, d2, d3] => { results := [.lit (.bool false)], args := [d1, d2, d3] }
  | _ => none }
def BrakingNeedsWrongFalsely : Prop := brakingNeedsRow.holds Try.pinned (OpenSpec.ofChange brakingNeedsWrong)

/-- 'roboticslaw47.BrakingStops': WHATEVER THE INPUT: true; the input reads as it did. -/
def brakingStopsSpec : ChangeSpec := { name := "brakingStops", fn := fun _ => fun
  | [d1, d2] => { results := [.lit (.bool true)], args := [d1, d2] }
  | _ => none }
def brakingStopsRow : OpenClaim := { program := "ytanaficinidffaa", sum := "d4c33787f78bc2519fc071095cef7e7963543a7233376401f11f200fb2411aad", func := "robotics/roboticslaw47.BrakingStops", spec := "brakingStops", apart := false }
def BrakingStopsSaid : Prop := brakingStopsRow.holds Try.pinned (OpenSpec.ofChange brakingStopsSpec)

/-- ITS FALSE NEIGHBOUR: 'it returns false'. Refute it at one input. -/
def brakingStopsWrong : ChangeSpec := { name := "brakingStops", fn := fun _ => fun
  | [d1, d2] => { results := [.lit (.bool false)], args := [d1, d2] }
  | _ => none }
def BrakingStopsWrongFalsely : Prop := brakingStopsRow.holds Try.pinned (OpenSpec.ofChange brakingStopsWrong)

/-- 'roboticslaw47.BrakingMonotone': WHATEVER THE INPUT: true; the input reads as it did. -/
def brakingMonotoneSpec : ChangeSpec := { name := "brakingMonotone", fn := fun _ => fun
  | [d1, d2, d3, d4] => { results := [.lit (.bool true)], args := [d1, d2, d3, d4] }
  | _ => none }
def brakingMonotoneRow : OpenClaim := { program := "ytanaficinidffaa", sum := "d4c33787f78bc2519fc071095cef7e7963543a7233376401f11f200fb2411aad", func := "robotics/roboticslaw47.BrakingMonotone", spec := "brakingMonotone", apart := false }
def BrakingMonotoneSaid : Prop := brakingMonotoneRow.holds Try.pinned (OpenSpec.ofChange brakingMonotoneSpec)

/-- ITS FALSE NEIGHBOUR: 'it returns false'. Refute it at one input. -/
def brakingMonotoneWrong : ChangeSpec := { name := "brakingMonotone", fn := fun _ => fun
  | [d1, d2, d3, d4] => { results := [.lit (.bool false)], args := [d1, d2, d3, d4] }
  | _ => none }
def BrakingMonotoneWrongFalsely : Prop := brakingMonotoneRow.holds Try.pinned (OpenSpec.ofChange brakingMonotoneWrong)

/-- 'roboticslaw47.BrakingAllowed': WHATEVER THE INPUT: true; the input reads as it did. -/
def brakingAllowedSpec : ChangeSpec := { name := "brakingAllowed", fn := fun _ => fun
  | [d1, d2, d3] => { results := [.lit (.bool true)], args := [d1, d2, d3] }
  | _ => none }
def brakingAllowedRow : OpenClaim := { program := "ytanaficinidffaa", sum := "d4c33787f78bc2519fc071095cef7e7963543a7233376401f11f200fb2411aad", func := "robotics/roboticslaw47.BrakingAllowed", spec := "brakingAllowed", apart := false }
def BrakingAllowedSaid : Prop := brakingAllowedRow.holds Try.pinned (OpenSpec.ofChange brakingAllowedSpec)

/-- ITS FALSE NEIGHBOUR: 'it returns false'. Refute it at one input. -/
def brakingAllowedWrong : ChangeSpec := { name := "brakingAllowed", fn := fun _ => fun
  | [d1, d2, d3] => { results := [.lit (.bool false)], args := [d1, d2, d3] }
  | _ => none }
def BrakingAllowedWrongFalsely : Prop := brakingAllowedRow.holds Try.pinned (OpenSpec.ofChange brakingAllowedWrong)

/-- 'roboticslaw47.BrakingTables': WHATEVER THE INPUT: true; the input reads as it did. -/
def brakingTablesSpec : ChangeSpec := { name := "brakingTables", fn := fun _ => fun
  | [d] => { results := [.lit (.bool true)], args := [d] }
  | _ => none }
def brakingTablesRow : OpenClaim := { program := "ytanaficinidffaa", sum := "d4c33787f78bc2519fc071095cef7e7963543a7233376401f11f200fb2411aad", func := "robotics/roboticslaw47.BrakingTables", spec := "brakingTables", apart := false }
def BrakingTablesSaid : Prop := brakingTablesRow.holds Try.pinned (OpenSpec.ofChange brakingTablesSpec)

/-- ITS FALSE NEIGHBOUR: 'it returns false'. Refute it at one input. -/
def brakingTablesWrong : ChangeSpec := { name := "brakingTables", fn := fun _ => fun
  | [d] => { results := [.lit (.bool false)], args := [d] }
  | _ => none }
def BrakingTablesWrongFalsely : Prop := brakingTablesRow.holds Try.pinned (OpenSpec.ofChange brakingTablesWrong)

/- THE SECOND FORM. 'bulk': how many values and letters a reading holds, each counted each time it is reached (what is shared counts as often as it is met; a slice's spare places count too). A statement '..UptoSaid' is the law's where the arguments, and the package variables that the reading takes, are together of bulk at most 1048576: NARROWER than '..Said'. Prove '..Said' where nothing that the law and all that it calls make is longer than what came in: it says more and counts as full. Else prove '..UptoSaid'. A law counts once. -/
mutual
def uptoBulk {H : Type} : DataW H → Nat
  | .lit (.string bytes) => bytes.length + 1
  | .lit _ => 1
  | .nil => 1
  | .ptr d => uptoBulk d + 1
  | .slice elems spare => uptoBulkAll elems + uptoBulkAll spare + 1
  | .agg parts => uptoBulkAll parts + 1
  | .iface _ d => uptoBulk d + 1
  | .map entries => uptoBulkEntries entries + 1
  | .held _ => 1
def uptoBulkAll {H : Type} : List (DataW H) → Nat
  | [] => 0
  | d :: r => uptoBulk d + uptoBulkAll r
def uptoBulkEntries {H : Type} : List (Lit × DataW H) → Nat
  | [] => 0
  | x :: r => uptoBulkEntry x + uptoBulkEntries r
def uptoBulkEntry {H : Type} : Lit × DataW H → Nat
  | (.string bytes, d) => bytes.length + uptoBulk d + 1
  | (_, d) => uptoBulk d + 1
 end
def uptoSmall : (H : Type) → List (DataW H) → Bool := fun _ ds => decide (uptoBulkAll ds ≤ 1048576)
def OpenSpec.upto (s : _root_.Go.ChangeSpec) : _root_.Go.OpenSpec := { _root_.Go.OpenSpec.ofChange s with cond := some uptoSmall }

/-- 'roboticslaw47.BrakingSafe', WHERE WHAT IT READS IS OF BULK AT MOST 1048576: true; the input reads as it did. -/
def brakingSafeUptoRow : OpenClaim := { program := "ytanaficinidffaa", sum := "d4c33787f78bc2519fc071095cef7e7963543a7233376401f11f200fb2411aad", func := "robotics/roboticslaw47.BrakingSafe", spec := "brakingSafe", apart := false, narrowed := true }
def BrakingSafeUptoSaid : Prop := brakingSafeUptoRow.holds Try.pinned (OpenSpec.upto brakingSafeSpec)

/-- 'roboticslaw47.BrakingDistances', WHERE WHAT IT READS IS OF BULK AT MOST 1048576: true; the input reads as it did. -/
def brakingDistancesUptoRow : OpenClaim := { program := "ytanaficinidffaa", sum := "d4c33787f78bc2519fc071095cef7e7963543a7233376401f11f200fb2411aad", func := "robotics/roboticslaw47.BrakingDistances", spec := "brakingDistances", apart := false, narrowed := true }
def BrakingDistancesUptoSaid : Prop := brakingDistancesUptoRow.holds Try.pinned (OpenSpec.upto brakingDistancesSpec)

/-- 'roboticslaw47.BrakingNeeds', WHERE WHAT IT READS IS OF BULK AT MOST 1048576: true; the input reads as it did. -/
def brakingNeedsUptoRow : OpenClaim := { program := "ytanaficinidffaa", sum := "d4c33787f78bc2519fc071095cef7e7963543a7233376401f11f200fb2411aad", func := "robotics/roboticslaw47.BrakingNeeds", spec := "brakingNeeds", apart := false, narrowed := true }
def BrakingNeedsUptoSaid : Prop := brakingNeedsUptoRow.holds Try.pinned (OpenSpec.upto brakingNeedsSpec)

/-- 'roboticslaw47.BrakingStops', WHERE WHAT IT READS IS OF BULK AT MOST 1048576: true; the input reads as it did. -/
def brakingStopsUptoRow : OpenClaim := { program := "ytanaficinidffaa", sum := "d4c33787f78bc2519fc071095cef7e7963543a7233376401f11f200fb2411aad", func := "robotics/roboticslaw47.BrakingStops", spec := "brakingStops", apart := false, narrowed := true }
def BrakingStopsUptoSaid : Prop := brakingStopsUptoRow.holds Try.pinned (OpenSpec.upto brakingStopsSpec)

/-- 'roboticslaw47.BrakingMonotone', WHERE WHAT IT READS IS OF BULK AT MOST 1048576: true; the input reads as it did. -/
def brakingMonotoneUptoRow : OpenClaim := { program := "ytanaficinidffaa", sum := "d4c33787f78bc2519fc071095cef7e7963543a7233376401f11f200fb2411aad", func := "robotics/roboticslaw47.BrakingMonotone", spec := "brakingMonotone", apart := false, narrowed := true }
def BrakingMonotoneUptoSaid : Prop := brakingMonotoneUptoRow.holds Try.pinned (OpenSpec.upto brakingMonotoneSpec)

/-- 'roboticslaw47.BrakingAllowed', WHERE WHAT IT READS IS OF BULK AT MOST 1048576: true; the input reads as it did. -/
def brakingAllowedUptoRow : OpenClaim := { program := "ytanaficinidffaa", sum := "d4c33787f78bc2519fc071095cef7e7963543a7233376401f11f200fb2411aad", func := "robotics/roboticslaw47.BrakingAllowed", spec := "brakingAllowed", apart := false, narrowed := true }
def BrakingAllowedUptoSaid : Prop := brakingAllowedUptoRow.holds Try.pinned (OpenSpec.upto brakingAllowedSpec)

/-- 'roboticslaw47.BrakingTables', WHERE WHAT IT READS IS OF BULK AT MOST 1048576: true; the input reads as it did. -/
def brakingTablesUptoRow : OpenClaim := { program := "ytanaficinidffaa", sum := "d4c33787f78bc2519fc071095cef7e7963543a7233376401f11f200fb2411aad", func := "robotics/roboticslaw47.BrakingTables", spec := "brakingTables", apart := false, narrowed := true }
def BrakingTablesUptoSaid : Prop := brakingTablesUptoRow.holds Try.pinned (OpenSpec.upto brakingTablesSpec)

end Rows
end Go.Proofs.Ytanaficinidffaa
