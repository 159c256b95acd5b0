/- The law MotionStops returns true for every input; its arguments read afterwards as before. No condition. -/
import Derived.Test.YthfpdlkeagoamaaL5w
import Derived.Test.YthfpdlkeagoamaaRows
namespace Go.Proofs.Ythfpdlkeagoamaa.motionStops
open Go.ChangeShapes Go.WideShapes Go.ChangeAt Go.RowKit

set_option linter.unusedVariables false
theorem walk (px : Int) (py : Int) (vx : Int) (vy : Int) (hpx : (Lit.int .i64 px).wf = true) (hpy : (Lit.int .i64 py).wf = true) (hvx : (Lit.int .i64 vx).wf = true) (hvy : (Lit.int .i64 vy).wf = true) (S : Int) (A : Int) (B : Int) (H : Int) (M : Int) (hS : (Lit.int .i64 S).wf = true) (hA : (Lit.int .i64 A).wf = true) (hB : (Lit.int .i64 B).wf = true) (hH : (Lit.int .i64 H).wf = true) (hM : (Lit.int .i64 M).wf = true) (w : World) : Calls Try.prog 7 #[mo px py vx vy, lim S A B H M] w fun e w' => e = .returned (.bool true) ∧ Below w.heap.size w w' := by
  cases ev : vld px py vx vy S A B H M with
  | false => exact bad px py vx vy S A B H M ev w
  | true =>
    have h : (⟨px, py, vx, vy⟩ : Mo).ok S A B H M := ev
    by_cases hs : vx = 0 ∧ vy = 0
    · exact zero ⟨px, py, vx, vy⟩ S A B H M h hs w
    · have hl : (stopL B 4097 ⟨px, py, vx, vy⟩).length ≠ 0 := by
        rw [stopL_go (m := ⟨px, py, vx, vy⟩) hs]
        simp
      obtain ⟨n, hn⟩ := Nat.exists_eq_succ_of_ne_zero hl
      exact core ⟨px, py, vx, vy⟩ S A B H M h hs n hn w

theorem own : ownKnob Try.prog.godebug = none := by kernel_rfl
set_option maxRecDepth 100000 in
theorem lifted (os : Os) (started : os.Started) (H : Type) (enc : TypeId × Value → H) :
    ReturnsInHanded {} Try.checked os 7 .any (Rows.motionStopsSpec.pre6 enc Try.prog Try.f7 Rows.motionStopsRow.domain false) (Rows.motionStopsSpec.post enc Try.prog Try.f7 false true false false) := by
  refine returnsInHanded_of_change (C := Try.checked) own started (by kernel_rfl) Try.func7
    (ChangeSpec.witness6 (enc := enc) (C := Try.checked) false ⟨#[], #[.agg #[.int .i64 0, .int .i64 0, .int .i64 0, .int .i64 0], .agg #[.int .i64 0, .int .i64 0, .int .i64 0, .int .i64 0, .int .i64 0]], []⟩ 8 (by kernel_rfl) (by kernel_rfl) (by kernel_rfl) (by kernel_rfl)) ?_
  intro W base args ds gs before hval0 hW _ _
  have hval : ∀ (j : Nat) t v, Try.f7.params[j]? = some t → args[j]? = some v → Value.okWide Try.prog W .any base t v := hval0
  have hW' := hW
  obtain ⟨p, q, hA0, hV, rfl, hfz, hnd⟩ := hW
  have hA : DataW.TrodAll enc Try.prog W 0 (fun _ => true) true Try.f7.params.toList args.toList ds p := hA0
  rw [Try.params7] at hA hval
  obtain ⟨v0, vs0, d0, ds0, p0, q0, hargs, rfl, rfl, h0, r0⟩ := trodAll_cons hA
  obtain ⟨v1, vs1, d1, ds1, p1, q1, rfl, rfl, rfl, h1, r1⟩ := trodAll_cons r0
  obtain ⟨rfl, rfl, rfl⟩ := trodAll_nil r1
  obtain rfl : args = #[v0, v1] := by cases args; simp_all
  obtain ⟨rfl, rfl⟩ := trodVars_none hV
  obtain ⟨a00, a01, a02, a03, rfl, w00, w01, w02, w03⟩ := open_mo Try.underlying25 (by kernel_rfl) rfl rfl rfl rfl (by kernel_rfl) Try.underlying23 (by kernel_rfl) Try.underlying3 rfl rfl (hval 0 25 v0 rfl rfl) h0
  obtain ⟨a10, a11, a12, a13, a14, rfl, w10, w11, w12, w13, w14⟩ := open_ints5 Try.underlying27 (by kernel_rfl) (by kernel_rfl) Try.underlying3 rfl rfl rfl rfl rfl (hval 1 27 v1 rfl rfl) h1
  refine (walk a00 a01 a02 a03 w00 w01 w02 w03 a10 a11 a12 a13 a14 w10 w11 w12 w13 w14 W).mono fun e W' ⟨he, hb⟩ => ?_
  subst he
  exact ⟨_, rfl, law_post (by kernel_rfl) (by kernel_rfl) rfl (show Try.f7.resultTypes = #[4] by kernel_rfl) Try.underlying4 hW' rfl rfl rfl hb⟩
theorem over : Rows.motionStopsRow.holds Try.pinned (OpenSpec.ofChange Rows.motionStopsSpec) :=
  OpenClaim.holds_of_wide 7 Try.f7 rfl rfl rfl rfl rfl rfl rfl ⟨rfl, rfl, rfl, rfl, rfl⟩ rfl rfl rfl rfl rfl (by kernel_rfl) Try.func7 (by kernel_rfl)
    (of_decide_eq_true (by kernel_rfl)) (by unfold Func.isWrapper; first | (rw [if_pos (by decide +kernel)]; kernel_rfl) | (rw [if_neg (by decide +kernel)]; exact ⟨rfl, rfl⟩))
    (fun os started H enc _ => lifted os started H enc)
/-- THE STATEMENT. -/
theorem proved : Rows.MotionStopsSaid := over
#print axioms proved
end Go.Proofs.Ythfpdlkeagoamaa.motionStops
