/- What the listed variable gives: the cells of the table of powers. -/
import Derived.Test.YteinfhfapelegaaDoorXe
import Derived.Test.YteinfhfapelegaaDoorRows
import Derived.ProofKit
import Derived.LaidMore
import Derived.OpenShut
import Derived.ChangeArms
import Derived.Stop.Joined
namespace Go.Proofs.YteinfhfapelegaaDoor
open Go.ChangeShapes Go.WideShapes Go.ChangeAt Go.RowKit
set_option linter.unusedVariables false
set_option linter.unusedSimpArgs false
/-- the list of the row -/
abbrev laid1 : List (String × DataW Unit) := [("robotics/fixed.tens", Rows.laid_robotics_fixed_tens)]
theorem own : ownKnob Tryd.prog.godebug = none := by kernel_rfl
theorem gTens : Tryd.prog.globalNamed "robotics/fixed.tens" = some 0 := by kernel_rfl
theorem tTens : (Tryd.prog.globals[0]?).map (·.type) = some 32 := by kernel_rfl
theorem c32 : Tryd.prog.cellsOf 32 = 6 := by kernel_rfl
theorem c28 : Tryd.prog.cellsOf 28 = 1 := by kernel_rfl
theorem door_met (os : Os) (args : Array Value) : laidMetH Tryd.prog laid1 ((World.doorLaid Tryd.prog 400 os).forCall (fun _ _ => 0) ⟨#[], args, []⟩).memory :=
  laidMetH_of_parts3 (fuel := 8) (laidMet_of_run' 8 (by kernel_rfl) (by kernel_rfl)) (by kernel_rfl) (by kernel_rfl)
section
variable {H : Type} {enc : TypeId × Value → H} {w : World} {base : Nat} {sp : Nat → Bool} {held : Bool}
theorem tens_of {fuel : Nat} {cs : List Value} {p : List MemPlace} (h : DataW.trod enc Tryd.prog w base sp held fuel 32 cs = some (Rows.laid_robotics_fixed_tens, p)) : cs = [.int .u64 1, .int .u64 10, .int .u64 100, .int .u64 1000, .int .u64 10000, .int .u64 100000] := by
  obtain ⟨xs, m, rfl, hx, hl, hn, hel⟩ := DataW.trod_array Tryd.underlying32 h
  rw [c32] at hl
  match cs, hl, xs, hn with
  | [v0, v1, v2, v3, v4, v5], _, [y0, y1, y2, y3, y4, y5], _ =>
    have e0 : DataW.trod enc Tryd.prog w base sp held m 28 [v0] = some y0 := by simpa [c28] using hel 0 (by omega)
    have e1 : DataW.trod enc Tryd.prog w base sp held m 28 [v1] = some y1 := by simpa [c28] using hel 1 (by omega)
    have e2 : DataW.trod enc Tryd.prog w base sp held m 28 [v2] = some y2 := by simpa [c28] using hel 2 (by omega)
    have e3 : DataW.trod enc Tryd.prog w base sp held m 28 [v3] = some y3 := by simpa [c28] using hel 3 (by omega)
    have e4 : DataW.trod enc Tryd.prog w base sp held m 28 [v4] = some y4 := by simpa [c28] using hel 4 (by omega)
    have e5 : DataW.trod enc Tryd.prog w base sp held m 28 [v5] = some y5 := by simpa [c28] using hel 5 (by omega)
    obtain ⟨d0, g0, rfl, _⟩ := DataW.trod_int Tryd.underlying28 e0
    obtain ⟨d1, g1, rfl, _⟩ := DataW.trod_int Tryd.underlying28 e1
    obtain ⟨d2, g2, rfl, _⟩ := DataW.trod_int Tryd.underlying28 e2
    obtain ⟨d3, g3, rfl, _⟩ := DataW.trod_int Tryd.underlying28 e3
    obtain ⟨d4, g4, rfl, _⟩ := DataW.trod_int Tryd.underlying28 e4
    obtain ⟨d5, g5, rfl, _⟩ := DataW.trod_int Tryd.underlying28 e5
    simp [Rows.laid_robotics_fixed_tens] at hx g0 g1 g2 g3 g4 g5
    obtain ⟨⟨rfl, rfl, rfl, rfl, rfl, rfl⟩, _⟩ := hx
    rw [g0, g1, g2, g3, g4, g5]
end
theorem tens_of_laid {W : World} (h : laidMetH Tryd.prog laid1 W) : Tens W := by
  rw [MakeChecks.laidMetH_plain _ _ _ (by kernel_rfl)] at h
  obtain ⟨ps, ⟨g0, t0, cs0, f0, p0, q0, hg0, ht0, hv0, hd0, _, _⟩, _⟩ := h
  obtain rfl := Option.some.inj (gTens.symm.trans hg0)
  obtain rfl := Option.some.inj (tTens.symm.trans ht0)
  have hc := tens_of hd0
  have key : ∀ i v, cs0.toList[i]? = some v → W.cell? ⟨0, i, none⟩ = some v := fun i v e => by
    have := World.var?_cell hg0 hv0 i
    rw [this, ← Array.getElem?_toList]
    exact e
  rw [hc] at key
  have hall : ∀ i : Nat, i < 6 → W.cell? ⟨0, i, none⟩ = some (.int .u64 (10 ^ i)) := by
    intro i hi
    have h6 : i = 0 ∨ i = 1 ∨ i = 2 ∨ i = 3 ∨ i = 4 ∨ i = 5 := by omega
    rcases h6 with rfl | rfl | rfl | rfl | rfl | rfl <;> exact key _ _ rfl
  refine ⟨?_, hall⟩
  have h0 := hall 0 (by omega)
  rcases Nat.eq_zero_or_pos W.heap.size with hz | hz
  · exfalso
    have hn : W.heap[0]? = none := by rw [Array.getElem?_eq_none_iff]; omega
    simp [World.cell?, hn] at h0
  · exact hz
end Go.Proofs.YteinfhfapelegaaDoor
