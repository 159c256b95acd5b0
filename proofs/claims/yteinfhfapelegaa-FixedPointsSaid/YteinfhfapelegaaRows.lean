/-
  No cell of these rows narrows 'for every input' (looked for: loops, veiled, ifaces, maps, wideKeys, modest, calm, conditions, laid).
  DERIVED. THE GIVEN ROWS OF THIS SEAT. 5 by the template 'for every input the law returns true; each argument reads behind the call as it read before'; 0 by the template 'total and deterministic' (their statements: YteinfhfapelegaaTotals.lean).
  GIVEN WITH THE SEED: the statements are not yours to turn. If you find one false, say at which input.
  Laid BY PROGRAM, IN A SANDBOX (cutbox-rows.mjs): the forced cells as the released guide's own fill.sh prints them over the translation dae642ad2f9f470a… (all of the seat's roots in one cut). By AI agents, Wed Nov 11 2026. No macro, syntax, notation, axiom, sorry.
-/
import Derived.Test.YteinfhfapelegaaChecked
import GoSem.Claim
import GoSem.ClaimJoined
import GoSem.ClaimMapViews
import Derived.JoinedTies
import Derived.KernelRfl
namespace Go.Proofs.Yteinfhfapelegaa
/- THE CELL 'sum', in the pinned program and in every row, IS THE sha256 OF THE DUMP (.gsa) THAT YteinfhfapelegaaProg.lean LOADS. Nothing in Lean hashes anything: it is a label: what it is worth is what the hold of that sum in a sandbox is worth. -/
noncomputable def Try.pinned : Pinned := { name := "yteinfhfapelegaa", sum := "dae642ad2f9f470a6f8342a9d5b8a8e631bb824146f6f86f0f550300149ba614", checked := Try.checked }
namespace Rows
def none {H : Type} : Left H := { results := [], args := [] }

/-- 'roboticslaw03.FixedMuls': WHATEVER THE INPUT: true; the input reads as it did. -/
def fixedMulsSpec : ChangeSpec := { name := "fixedMuls", fn := fun _ => fun
  | [d1, d2] => { results := [.lit (.bool true)], args := [d1, d2] }
  | _ => none }
def fixedMulsRow : OpenClaim := { program := "yteinfhfapelegaa", sum := "dae642ad2f9f470a6f8342a9d5b8a8e631bb824146f6f86f0f550300149ba614", func := "robotics/roboticslaw03.FixedMuls", spec := "fixedMuls", apart := false }
def FixedMulsSaid : Prop := fixedMulsRow.holds Try.pinned (OpenSpec.ofChange fixedMulsSpec)

/-- ITS FALSE NEIGHBOUR: 'it returns false'. Refute it at one input. -/
def fixedMulsWrong : ChangeSpec := { name := "fixedMuls", fn := fun _ => fun
  | [d1, d2] => { results := [.lit (.bool false)], args := [d1, d2] }
  | _ => none }
def FixedMulsWrongFalsely : Prop := fixedMulsRow.holds Try.pinned (OpenSpec.ofChange fixedMulsWrong)

/-- 'roboticslaw03.FixedSigns': WHATEVER THE INPUT: true; the input reads as it did. -/
def fixedSignsSpec : ChangeSpec := { name := "fixedSigns", fn := fun _ => fun
  | [d1, d2] => { results := [.lit (.bool true)], args := [d1, d2] }
  | _ => none }
def fixedSignsRow : OpenClaim := { program := "yteinfhfapelegaa", sum := "dae642ad2f9f470a6f8342a9d5b8a8e631bb824146f6f86f0f550300149ba614", func := "robotics/roboticslaw03.FixedSigns", spec := "fixedSigns", apart := false }
def FixedSignsSaid : Prop := fixedSignsRow.holds Try.pinned (OpenSpec.ofChange fixedSignsSpec)

/-- ITS FALSE NEIGHBOUR: 'it returns false'. Refute it at one input. -/
def fixedSignsWrong : ChangeSpec := { name := "fixedSigns", fn := fun _ => fun
  | [d1, d2] => { results := [.lit (.bool false)], args := [d1, d2] }
  | _ => none }
def FixedSignsWrongFalsely : Prop := fixedSignsRow.holds Try.pinned (OpenSpec.ofChange fixedSignsWrong)

/-- 'roboticslaw03.FixedPoints': WHATEVER THE INPUT: true; the input reads as it did. -/
def fixedPointsSpec : ChangeSpec := { name := "fixedPoints", fn := fun _ => fun
  | [d1, d2] => { results := [.lit (.bool true)], args := [d1, d2] }
  | _ => none }
def fixedPointsRow : OpenClaim := { program := "yteinfhfapelegaa", sum := "dae642ad2f9f470a6f8342a9d5b8a8e631bb824146f6f86f0f550300149ba614", func := "robotics/roboticslaw03.FixedPoints", spec := "fixedPoints", apart := false }
def FixedPointsSaid : Prop := fixedPointsRow.holds Try.pinned (OpenSpec.ofChange fixedPointsSpec)

/-- ITS FALSE NEIGHBOUR: 'it returns false'. Refute it at one input. -/
def fixedPointsWrong : ChangeSpec := { name := "fixedPoints", fn := fun _ => fun
  | [d1, d2] => { results := [.lit (.bool false)], args := [d1, d2] }
  | _ => none }
def FixedPointsWrongFalsely : Prop := fixedPointsRow.holds Try.pinned (OpenSpec.ofChange fixedPointsWrong)

/-- 'roboticslaw03.FixedRoots': WHATEVER THE INPUT: true; the input reads as it did. -/
def fixedRootsSpec : ChangeSpec := { name := "fixedRoots", fn := fun _ => fun
  | [d1, d2, d3] => { results := [.lit (.bool true)], args := [d1, d2, d3] }
  | _ => none }
def fixedRootsRow : OpenClaim := { program := "yteinfhfapelegaa", sum := "dae642ad2f9f470a6f8342a9d5b8a8e631bb824146f6f86f0f550300149ba614", func := "robotics/roboticslaw03.FixedRoots", spec := "fixedRoots", apart := false }
def FixedRootsSaid : Prop := fixedRootsRow.holds Try.pinned (OpenSpec.ofChange fixedRootsSpec)

/-- ITS FALSE NEIGHBOUR: 'it returns false'. Refute it at one input. -/
def fixedRootsWrong : ChangeSpec := { name := "fixedRoots", fn := fun _ => fun
  | [d1, d2, d3] => { results := [.lit (.bool false)], args := [d1, d2, d3] }
  | _ => none }
def FixedRootsWrongFalsely : Prop := fixedRootsRow.holds Try.pinned (OpenSpec.ofChange fixedRootsWrong)

/-- 'roboticslaw03.FixedScales': WHATEVER THE INPUT: true; the input reads as it did. -/
def fixedScalesSpec : ChangeSpec := { name := "fixedScales", fn := fun _ => fun
  | [d1, d2, d3] => { results := [.lit (.bool true)], args := [d1, d2, d3] }
  | _ => none }
def fixedScalesRow : OpenClaim := { program := "yteinfhfapelegaa", sum := "dae642ad2f9f470a6f8342a9d5b8a8e631bb824146f6f86f0f550300149ba614", func := "robotics/roboticslaw03.FixedScales", spec := "fixedScales", apart := false }
def FixedScalesSaid : Prop := fixedScalesRow.holds Try.pinned (OpenSpec.ofChange fixedScalesSpec)

/-- ITS FALSE NEIGHBOUR: 'it returns false'. Refute it at one input. -/
def fixedScalesWrong : ChangeSpec := { name := "fixedScales", fn := fun _ => fun
  | [d1, d2, d3] => { results := [.lit (.bool false)], args := [d1, d2, d3] }
  | _ => none }
def FixedScalesWrongFalsely : Prop := fixedScalesRow.holds Try.pinned (OpenSpec.ofChange fixedScalesWrong)

/- THE SECOND FORM. 'bulk': how many values and letters a reading holds, each counted each time it is reached (what is shared counts as often as it is met; a slice's spare places count too). A statement '..UptoSaid' is the law's where the arguments, and the package variables that the reading takes, are together of bulk at most 1048576: NARROWER than '..Said'. Prove '..Said' where nothing that the law and all that it calls make is longer than what came in: it says more and counts as full. Else prove '..UptoSaid'. A law counts once. -/
mutual
def uptoBulk {H : Type} : DataW H → Nat
  | .lit (.string bytes) => bytes.length + 1
  | .lit _ => 1
  | .nil => 1
  | .ptr d => uptoBulk d + 1
  | .slice elems spare => uptoBulkAll elems + uptoBulkAll spare + 1
  | .agg parts => uptoBulkAll parts + 1
  | .iface _ d => uptoBulk d + 1
  | .map entries => uptoBulkEntries entries + 1
  | .held _ => 1
def uptoBulkAll {H : Type} : List (DataW H) → Nat
  | [] => 0
  | d :: r => uptoBulk d + uptoBulkAll r
def uptoBulkEntries {H : Type} : List (Lit × DataW H) → Nat
  | [] => 0
  | x :: r => uptoBulkEntry x + uptoBulkEntries r
def uptoBulkEntry {H : Type} : Lit × DataW H → Nat
  | (.string bytes, d) => bytes.length + uptoBulk d + 1
  | (_, d) => uptoBulk d + 1
 end
def uptoSmall : (H : Type) → List (DataW H) → Bool := fun _ ds => decide (uptoBulkAll ds ≤ 1048576)
def OpenSpec.upto (s : _root_.Go.ChangeSpec) : _root_.Go.OpenSpec := { _root_.Go.OpenSpec.ofChange s with cond := some uptoSmall }

/-- 'roboticslaw03.FixedMuls', WHERE WHAT IT READS IS OF BULK AT MOST 1048576: true; the input reads as it did. -/
def fixedMulsUptoRow : OpenClaim := { program := "yteinfhfapelegaa", sum := "dae642ad2f9f470a6f8342a9d5b8a8e631bb824146f6f86f0f550300149ba614", func := "robotics/roboticslaw03.FixedMuls", spec := "fixedMuls", apart := false, narrowed := true }
def FixedMulsUptoSaid : Prop := fixedMulsUptoRow.holds Try.pinned (OpenSpec.upto fixedMulsSpec)

/-- 'roboticslaw03.FixedSigns', WHERE WHAT IT READS IS OF BULK AT MOST 1048576: true; the input reads as it did. -/
def fixedSignsUptoRow : OpenClaim := { program := "yteinfhfapelegaa", sum := "dae642ad2f9f470a6f8342a9d5b8a8e631bb824146f6f86f0f550300149ba614", func := "robotics/roboticslaw03.FixedSigns", spec := "fixedSigns", apart := false, narrowed := true }
def FixedSignsUptoSaid : Prop := fixedSignsUptoRow.holds Try.pinned (OpenSpec.upto fixedSignsSpec)

/-- 'roboticslaw03.FixedPoints', WHERE WHAT IT READS IS OF BULK AT MOST 1048576: true; the input reads as it did. -/
def fixedPointsUptoRow : OpenClaim := { program := "yteinfhfapelegaa", sum := "dae642ad2f9f470a6f8342a9d5b8a8e631bb824146f6f86f0f550300149ba614", func := "robotics/roboticslaw03.FixedPoints", spec := "fixedPoints", apart := false, narrowed := true }
def FixedPointsUptoSaid : Prop := fixedPointsUptoRow.holds Try.pinned (OpenSpec.upto fixedPointsSpec)

/-- 'roboticslaw03.FixedRoots', WHERE WHAT IT READS IS OF BULK AT MOST 1048576: true; the input reads as it did. -/
def fixedRootsUptoRow : OpenClaim := { program := "yteinfhfapelegaa", sum := "dae642ad2f9f470a6f8342a9d5b8a8e631bb824146f6f86f0f550300149ba614", func := "robotics/roboticslaw03.FixedRoots", spec := "fixedRoots", apart := false, narrowed := true }
def FixedRootsUptoSaid : Prop := fixedRootsUptoRow.holds Try.pinned (OpenSpec.upto fixedRootsSpec)

/-- 'roboticslaw03.FixedScales', WHERE WHAT IT READS IS OF BULK AT MOST 1048576: true; the input reads as it did. -/
def fixedScalesUptoRow : OpenClaim := { program := "yteinfhfapelegaa", sum := "dae642ad2f9f470a6f8342a9d5b8a8e631bb824146f6f86f0f550300149ba614", func := "robotics/roboticslaw03.FixedScales", spec := "fixedScales", apart := false, narrowed := true }
def FixedScalesUptoSaid : Prop := fixedScalesUptoRow.holds Try.pinned (OpenSpec.upto fixedScalesSpec)

end Rows
end Go.Proofs.Yteinfhfapelegaa
