/- What the listed variable gives: the cells of the table. -/
import Derived.Test.YthklehpekglohaaDoorWa
import Derived.Test.YthklehpekglohaaDoorRows
import Derived.ProofKit
import Derived.LaidMore
import Derived.OpenShut
import Derived.ChangeArms
import Derived.Stop.Joined
namespace Go.Proofs.YthklehpekglohaaDoor
open Go.ChangeShapes Go.WideShapes Go.ChangeAt Go.RowKit
set_option linter.unusedVariables false
set_option linter.unusedSimpArgs false
/-- the list of the rows -/
abbrev laid1 : List (String × DataW Unit) := [("robotics/lifecycle.rules", Rows.laid_robotics_lifecycle_rules)]
theorem own : ownKnob Tryd.prog.godebug = none := by kernel_rfl
theorem gRules : Tryd.prog.globalNamed "robotics/lifecycle.rules" = some 0 := by kernel_rfl
theorem tRules : (Tryd.prog.globals[0]?).map (·.type) = some 62 := by kernel_rfl
theorem c62 : Tryd.prog.cellsOf 62 = 30 := by kernel_rfl
theorem c61 : Tryd.prog.cellsOf 61 = 6 := by kernel_rfl
theorem c59 : Tryd.prog.cellsOf 59 = 4 := by kernel_rfl
theorem c3 : Tryd.prog.cellsOf 3 = 1 := by kernel_rfl
theorem c4 : Tryd.prog.cellsOf 4 = 1 := by kernel_rfl
theorem door_met (os : Os) (args : Array Value) : laidMetH Tryd.prog laid1 ((World.doorLaid Tryd.prog 400 os).forCall (fun _ _ => 0) ⟨#[], args, []⟩).memory :=
  laidMetH_of_parts3 (fuel := 8) (laidMet_of_run' 8 (by kernel_rfl) (by kernel_rfl)) (by kernel_rfl) (by kernel_rfl)
section
variable {H : Type} {enc : TypeId × Value → H} {w : World} {base : Nat} {sp : Nat → Bool} {held : Bool}
theorem from_of {fuel : Nat} {cs : List Value} {b0 b1 b2 b3 : Bool} {p : List MemPlace} (h : DataW.trod enc Tryd.prog w base sp held fuel 59 cs = some (.agg [.lit (.bool b0), .lit (.bool b1), .lit (.bool b2), .lit (.bool b3)], p)) : cs = [.bool b0, .bool b1, .bool b2, .bool b3] := by
  obtain ⟨xs, m, rfl, hx, hl, hn, hel⟩ := DataW.trod_array Tryd.underlying59 h
  rw [c59] at hl
  match cs, hl, xs, hn with
  | [v0, v1, v2, v3], _, [y0, y1, y2, y3], _ =>
    have e0 : DataW.trod enc Tryd.prog w base sp held m 4 [v0] = some y0 := by simpa [c4] using hel 0 (by omega)
    have e1 : DataW.trod enc Tryd.prog w base sp held m 4 [v1] = some y1 := by simpa [c4] using hel 1 (by omega)
    have e2 : DataW.trod enc Tryd.prog w base sp held m 4 [v2] = some y2 := by simpa [c4] using hel 2 (by omega)
    have e3 : DataW.trod enc Tryd.prog w base sp held m 4 [v3] = some y3 := by simpa [c4] using hel 3 (by omega)
    obtain ⟨d0, g0, rfl⟩ := DataW.trod_bool Tryd.underlying4 e0
    obtain ⟨d1, g1, rfl⟩ := DataW.trod_bool Tryd.underlying4 e1
    obtain ⟨d2, g2, rfl⟩ := DataW.trod_bool Tryd.underlying4 e2
    obtain ⟨d3, g3, rfl⟩ := DataW.trod_bool Tryd.underlying4 e3
    simp at hx g0 g1 g2 g3
    obtain ⟨⟨rfl, rfl, rfl, rfl⟩, _⟩ := hx
    rw [g0, g1, g2, g3]
theorem rule_of {fuel : Nat} {cs : List Value} {b0 b1 b2 b3 : Bool} {n f : Int} {p : List MemPlace} (h : DataW.trod enc Tryd.prog w base sp held fuel 61 cs = some (.agg [.agg [.lit (.bool b0), .lit (.bool b1), .lit (.bool b2), .lit (.bool b3)], .lit (.int .i64 n), .lit (.int .i64 f)], p)) : cs = [.bool b0, .bool b1, .bool b2, .bool b3, .int .i64 n, .int .i64 f] := by
  obtain ⟨xs, m, rfl, hx, hl, hn, hel⟩ := DataW.trod_struct Tryd.underlying61 h
  rw [c61] at hl
  match cs, hl, xs, hn with
  | [v0, v1, v2, v3, v4, v5], _, [y0, y1, y2], _ =>
    have e0 : DataW.trod enc Tryd.prog w base sp held m 59 [v0, v1, v2, v3] = some y0 := by simpa [c59] using hel 0 _ rfl
    have e1 : DataW.trod enc Tryd.prog w base sp held m 3 [v4] = some y1 := by simpa [c3] using hel 1 _ rfl
    have e2 : DataW.trod enc Tryd.prog w base sp held m 3 [v5] = some y2 := by simpa [c3] using hel 2 _ rfl
    obtain ⟨d1, g1, rfl, _⟩ := DataW.trod_int Tryd.underlying3 e1
    obtain ⟨d2, g2, rfl, _⟩ := DataW.trod_int Tryd.underlying3 e2
    obtain ⟨y00, y01⟩ := y0
    simp at hx g1 g2
    obtain ⟨⟨rfl, rfl, rfl⟩, _⟩ := hx
    have := from_of e0
    simp at this
    obtain ⟨rfl, rfl, rfl, rfl⟩ := this
    rw [g1, g2]
theorem table_of {fuel : Nat} {cs : List Value} {p : List MemPlace} (h : DataW.trod enc Tryd.prog w base sp held fuel 62 cs = some (Rows.laid_robotics_lifecycle_rules, p)) : cs = tbl := by
  obtain ⟨xs, m, rfl, hx, hl, hn, hel⟩ := DataW.trod_array Tryd.underlying62 h
  rw [c62] at hl
  match xs, hn with
  | [y0, y1, y2, y3, y4], _ =>
    have e0 : DataW.trod enc Tryd.prog w base sp held m 61 ((cs.drop 0).take 6) = some y0 := by simpa [c61] using hel 0 (by omega)
    have e1 : DataW.trod enc Tryd.prog w base sp held m 61 ((cs.drop 6).take 6) = some y1 := by simpa [c61] using hel 1 (by omega)
    have e2 : DataW.trod enc Tryd.prog w base sp held m 61 ((cs.drop 12).take 6) = some y2 := by simpa [c61] using hel 2 (by omega)
    have e3 : DataW.trod enc Tryd.prog w base sp held m 61 ((cs.drop 18).take 6) = some y3 := by simpa [c61] using hel 3 (by omega)
    have e4 : DataW.trod enc Tryd.prog w base sp held m 61 ((cs.drop 24).take 6) = some y4 := by simpa [c61] using hel 4 (by omega)
    obtain ⟨y0, z0⟩ := y0
    obtain ⟨y1, z1⟩ := y1
    obtain ⟨y2, z2⟩ := y2
    obtain ⟨y3, z3⟩ := y3
    obtain ⟨y4, z4⟩ := y4
    simp [Rows.laid_robotics_lifecycle_rules] at hx
    obtain ⟨⟨rfl, rfl, rfl, rfl, rfl⟩, _⟩ := hx
    have h0 := rule_of e0
    have h1 := rule_of e1
    have h2 := rule_of e2
    have h3 := rule_of e3
    have h4 := rule_of e4
    have hcs : cs = (cs.drop 0).take 6 ++ ((cs.drop 6).take 6 ++ ((cs.drop 12).take 6 ++ ((cs.drop 18).take 6 ++ (cs.drop 24).take 6))) := by
      have t4 : (cs.drop 24).take 6 = cs.drop 24 := List.take_of_length_le (by rw [List.length_drop]; omega)
      have a3 : cs.drop 18 = (cs.drop 18).take 6 ++ cs.drop 24 := by
        have := (List.take_append_drop 6 (cs.drop 18)).symm
        rwa [List.drop_drop] at this
      have a2 : cs.drop 12 = (cs.drop 12).take 6 ++ cs.drop 18 := by
        have := (List.take_append_drop 6 (cs.drop 12)).symm
        rwa [List.drop_drop] at this
      have a1 : cs.drop 6 = (cs.drop 6).take 6 ++ cs.drop 12 := by
        have := (List.take_append_drop 6 (cs.drop 6)).symm
        rwa [List.drop_drop] at this
      rw [t4, ← a3, ← a2, ← a1, List.drop_zero, List.take_append_drop]
    rw [hcs, h0, h1, h2, h3, h4]
    rfl
end
theorem rules_of_laid {W : World} (h : laidMetH Tryd.prog laid1 W) : Rules W := by
  rw [MakeChecks.laidMetH_plain _ _ _ (by kernel_rfl)] at h
  obtain ⟨ps, ⟨g0, t0, cs0, f0, p0, q0, hg0, ht0, hv0, hd0, _, _⟩, _⟩ := h
  obtain rfl := Option.some.inj (gRules.symm.trans hg0)
  obtain rfl := Option.some.inj (tRules.symm.trans ht0)
  have hc := table_of hd0
  intro i v e
  have := World.var?_cell hg0 hv0 i
  rw [this, ← Array.getElem?_toList, hc]
  exact e
end Go.Proofs.YthklehpekglohaaDoor
