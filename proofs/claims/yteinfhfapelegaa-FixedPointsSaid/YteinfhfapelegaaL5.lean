/- The law FixedPoints returns true for every input; its arguments read afterwards as before. No condition. -/
import Derived.Test.YteinfhfapelegaaL5w
import Derived.Test.YteinfhfapelegaaFrame2
import Derived.Test.YteinfhfapelegaaPts
import Derived.Test.YteinfhfapelegaaRows
namespace Go.Proofs.Yteinfhfapelegaa.fixedPoints
open Go.ChangeShapes Go.WideShapes Go.ChangeAt Go.RowKit

set_option linter.unusedVariables false
theorem prod_range {a b : Int} (h1 : -1048576 ≤ a) (h2 : a ≤ 1048576) (h3 : -1048576 ≤ b) (h4 : b ≤ 1048576) : -1099511627776 ≤ a * b ∧ a * b ≤ 1099511627776 := by
  have p1 : 0 ≤ (1048576 - a) * (1048576 - b) := Int.mul_nonneg (by omega) (by omega)
  have p2 : 0 ≤ (1048576 + a) * (1048576 + b) := Int.mul_nonneg (by omega) (by omega)
  have p3 : 0 ≤ (1048576 - a) * (1048576 + b) := Int.mul_nonneg (by omega) (by omega)
  have p4 : 0 ≤ (1048576 + a) * (1048576 - b) := Int.mul_nonneg (by omega) (by omega)
  have e1 : (1048576 - a) * (1048576 - b) = 1099511627776 - 1048576 * a - 1048576 * b + a * b := by grind
  have e2 : (1048576 + a) * (1048576 + b) = 1099511627776 + 1048576 * a + 1048576 * b + a * b := by grind
  have e3 : (1048576 - a) * (1048576 + b) = 1099511627776 - 1048576 * a + 1048576 * b - a * b := by grind
  have e4 : (1048576 + a) * (1048576 - b) = 1099511627776 + 1048576 * a - 1048576 * b - a * b := by grind
  omega
theorem walk (x y : Int) (wx : (Lit.int .i32 x).wf = true) (wy : (Lit.int .i32 y).wf = true) (u v : Int) (wu : (Lit.int .i32 u).wf = true) (wv : (Lit.int .i32 v).wf = true) (w : World) : Calls Try.prog 5 #[.agg #[.int .i32 x, .int .i32 y], .agg #[.int .i32 u, .int .i32 v]] w fun e w' => e = .returned (.bool true) ∧ Below w.heap.size w w' := by
  obtain ⟨x1, x2⟩ := i32_range wx
  obtain ⟨y1, y2⟩ := i32_range wy
  obtain ⟨u1, u2⟩ := i32_range wu
  obtain ⟨v1, v2⟩ := i32_range wv
  obtain ⟨X1, X2⟩ := tmod_range x
  obtain ⟨Y1, Y2⟩ := tmod_range y
  obtain ⟨U1, U2⟩ := tmod_range u
  obtain ⟨V1, V2⟩ := tmod_range v
  have P1 := fun w => point_any x y x1 x2 y1 y2 w
  have P2 := fun w => point_any u v u1 u2 v1 v2 w
  generalize x.tmod 1048577 = X at *
  generalize y.tmod 1048577 = Y at *
  generalize u.tmod 1048577 = U at *
  generalize v.tmod 1048577 = V at *
  have ed := sqr_sub_comm X Y U V
  have s1 := sqr_le X1 X2 Y1 Y2
  have s2 := sqr_le U1 U2 V1 V2
  have s3 := sqr_le (x := X - U) (y := Y - V) (b := 2097152) (by omega) (by omega) (by omega) (by omega)
  have tri := triangle (X := X) (Y := Y) (U := U) (V := V) (by omega) (by omega) (by omega)
  have m1 := prod_range X1 X2 U1 U2
  have m2 := prod_range Y1 Y2 V1 V2
  have l1 := isq_le (n := sqr X Y) (by omega)
  have l2 := isq_le (n := sqr U V) (by omega)
  refine core x y u v X Y U V (isq (sqr (X - U) (Y - V))) (isq (sqr X Y)) (isq (sqr U V)) X1 X2 Y1 Y2 U1 U2 V1 V2 (hid fun w => ?_) (hid fun w => ?_) (hid fun w => ?_) (hid fun w => ?_) (hid fun w => ?_) (hid fun w => ?_) (hid fun w => ?_) (hid fun w => ?_) (hid fun w => ?_) (hid P1) (hid P2) l1.1 l1.2 l2.1 l2.2 tri x1 x2 y1 y2 u1 u2 v1 v2 w
  · exact dist_any X Y U V (by omega) (by omega) (by omega) (by omega) (by omega) (by omega) (by omega) (by omega) w
  · rw [← ed]; exact dist_any U V X Y (by omega) (by omega) (by omega) (by omega) (by omega) (by omega) (by omega) (by omega) w
  · exact length_any X Y (by omega) (by omega) (by omega) (by omega) w
  · exact length_any U V (by omega) (by omega) (by omega) (by omega) w
  · exact rdist_any X Y U V (by omega) (by omega) (by omega) (by omega) (by omega) (by omega) (by omega) (by omega) w
  · exact rlength_any X Y (by omega) (by omega) (by omega) (by omega) w
  · exact dot_any X Y U V (by omega) (by omega) (by omega) (by omega) w
  · exact rdot_any X Y U V (by omega) (by omega) (by omega) (by omega) w
  · have := add_any (X - U) (Y - V) U V (by omega) (by omega) (by omega) (by omega) (by omega) (by omega) (by omega) (by omega) w
    rw [show X - U + U = X from by omega, show Y - V + V = Y from by omega] at this
    exact this

theorem own : ownKnob Try.prog.godebug = none := by kernel_rfl
set_option maxRecDepth 100000 in
theorem lifted (os : Os) (started : os.Started) (H : Type) (enc : TypeId × Value → H) :
    ReturnsInHanded {} Try.checked os 5 .any (Rows.fixedPointsSpec.pre6 enc Try.prog Try.f5 Rows.fixedPointsRow.domain false) (Rows.fixedPointsSpec.post enc Try.prog Try.f5 false true false false) := by
  refine returnsInHanded_of_change (C := Try.checked) own started (by kernel_rfl) Try.func5
    (ChangeSpec.witness6 (enc := enc) (C := Try.checked) false ⟨#[], #[.agg #[.int .i32 0, .int .i32 0], .agg #[.int .i32 0, .int .i32 0]], []⟩ 8 (by kernel_rfl) (by kernel_rfl) (by kernel_rfl) (by kernel_rfl)) ?_
  intro W base args ds gs before hval0 hW _ _
  have hval : ∀ (j : Nat) t v, Try.f5.params[j]? = some t → args[j]? = some v → Value.okWide Try.prog W .any base t v := hval0
  have hW' := hW
  obtain ⟨p, q, hA0, hV, rfl, hfz, hnd⟩ := hW
  have hA : DataW.TrodAll enc Try.prog W 0 (fun _ => true) true Try.f5.params.toList args.toList ds p := hA0
  rw [Try.params5] at hA hval
  obtain ⟨v0, vs0, d0, ds0, p0, q0, hargs, rfl, rfl, h0, r0⟩ := trodAll_cons hA
  obtain ⟨v1, vs1, d1, ds1, p1, q1, rfl, rfl, rfl, h1, r1⟩ := trodAll_cons r0
  obtain ⟨rfl, rfl, rfl⟩ := trodAll_nil r1
  obtain rfl : args = #[v0, v1] := by cases args; simp_all
  obtain ⟨rfl, rfl⟩ := trodVars_none hV
  obtain ⟨a00, a01, rfl, w00, w01⟩ := open_arr2 Try.underlying28 (by kernel_rfl) Try.underlying21 (by kernel_rfl) (hval 0 28 v0 rfl rfl) h0
  obtain ⟨a10, a11, rfl, w10, w11⟩ := open_arr2 Try.underlying28 (by kernel_rfl) Try.underlying21 (by kernel_rfl) (hval 1 28 v1 rfl rfl) h1
  refine (walk a00 a01 w00 w01 a10 a11 w10 w11 W).mono fun e W' ⟨he, hb⟩ => ?_
  subst he
  exact ⟨_, rfl, law_post (by kernel_rfl) (by kernel_rfl) rfl (show Try.f5.resultTypes = #[4] by kernel_rfl) Try.underlying4 hW' rfl rfl rfl hb⟩
theorem over : Rows.fixedPointsRow.holds Try.pinned (OpenSpec.ofChange Rows.fixedPointsSpec) :=
  OpenClaim.holds_of_wide 5 Try.f5 rfl rfl rfl rfl rfl rfl rfl ⟨rfl, rfl, rfl, rfl, rfl⟩ rfl rfl rfl rfl rfl (by kernel_rfl) Try.func5 (by kernel_rfl)
    (of_decide_eq_true (by kernel_rfl)) (by unfold Func.isWrapper; first | (rw [if_pos (by decide +kernel)]; kernel_rfl) | (rw [if_neg (by decide +kernel)]; exact ⟨rfl, rfl⟩))
    (fun os started H enc _ => lifted os started H enc)
/-- THE STATEMENT. -/
theorem proved : Rows.FixedPointsSaid := over
#print axioms proved
end Go.Proofs.Yteinfhfapelegaa.fixedPoints
