/- The law MotionSteps returns true for every input; its arguments read afterwards as before. No condition. -/
import Derived.Test.YthfpdlkeagoamaaWl
import Derived.Test.YthfpdlkeagoamaaFrame3
import Derived.Test.YthfpdlkeagoamaaRows
namespace Go.Proofs.Ythfpdlkeagoamaa.motionSteps
open Go.ChangeShapes Go.WideShapes Go.ChangeAt Go.RowKit

set_option linter.unusedVariables false
set_option maxHeartbeats 2000000 in
theorem walk (px : Int) (py : Int) (vx : Int) (vy : Int) (hpx : (Lit.int .i64 px).wf = true) (hpy : (Lit.int .i64 py).wf = true) (hvx : (Lit.int .i64 vx).wf = true) (hvy : (Lit.int .i64 vy).wf = true) (wx : Int) (wy : Int) (hwx : (Lit.int .i64 wx).wf = true) (hwy : (Lit.int .i64 wy).wf = true) (S : Int) (A : Int) (B : Int) (H : Int) (M : Int) (hS : (Lit.int .i64 S).wf = true) (hA : (Lit.int .i64 A).wf = true) (hB : (Lit.int .i64 B).wf = true) (hH : (Lit.int .i64 H).wf = true) (hM : (Lit.int .i64 M).wf = true) (w : World) : Calls Try.prog 6 #[mo px py vx vy, pt wx wy, lim S A B H M] w fun e w' => e = .returned (.bool true) ∧ Below w.heap.size w w' := by
  clear hpx hpy hvx hvy hS hA hB hH hM hwx hwy
  have HV := hid (fun w => step_any px py vx vy wx wy S A B H M w)
  have HR := hid (fun w => rstep_any px py vx vy wx wy S A B H M w)
  have HC := hid (fun w => brake_any px py vx vy S A B H M w)
  have HD := hid (fun w => rbrake_any px py vx vy S A B H M w)
  generalize nPx px py vx vy wx wy S A B H M = b1 at *
  generalize nPy px py vx vy wx wy S A B H M = b2 at *
  generalize nVx px py vx vy wx wy S A B H M = b3 at *
  generalize nVy px py vx vy wx wy S A B H M = b4 at *
  generalize brX px py vx vy S A B H M = c1 at *
  generalize brY px py vx vy S A B H M = c2 at *
  have q1 : ∀ w, (binOp .eql 25 (mo b1 b2 b3 b4) (mo b1 b2 b3 b4)).run Try.prog w = .ok (.bool true) w := fun w => by
    rw [eql_mo]; simp
  have q2 : ∀ w, (binOp .eql 23 (pt c1 c2) (pt c1 c2)).run Try.prog w = .ok (.bool true) w := fun w => by
    rw [eql_pt]; simp
  go_enter Try.func6, Try.ntmps6
  go_wp2_with fail
  have hl0 : ∀ (z : Later (((w.alloc (.cells #[.int .i64 px, .int .i64 py, .int .i64 vx, .int .i64 vy] 25)).alloc (.cells #[.int .i64 wx, .int .i64 wy] 23)).alloc (.cells #[.int .i64 S, .int .i64 A, .int .i64 B, .int .i64 H, .int .i64 M] 27))) (o : Nat), z.val.cell? ⟨w.heap.size, o, none⟩ = (((w.alloc (.cells #[.int .i64 px, .int .i64 py, .int .i64 vx, .int .i64 vy] 25)).alloc (.cells #[.int .i64 wx, .int .i64 wy] 23)).alloc (.cells #[.int .i64 S, .int .i64 A, .int .i64 B, .int .i64 H, .int .i64 M] 27)).cell? ⟨w.heap.size, o, none⟩ := fun z o => z.cell (by simp <;> omega)
  have hl1 : ∀ (z : Later (((w.alloc (.cells #[.int .i64 px, .int .i64 py, .int .i64 vx, .int .i64 vy] 25)).alloc (.cells #[.int .i64 wx, .int .i64 wy] 23)).alloc (.cells #[.int .i64 S, .int .i64 A, .int .i64 B, .int .i64 H, .int .i64 M] 27))) (o : Nat), z.val.cell? ⟨w.heap.size + 1, o, none⟩ = (((w.alloc (.cells #[.int .i64 px, .int .i64 py, .int .i64 vx, .int .i64 vy] 25)).alloc (.cells #[.int .i64 wx, .int .i64 wy] 23)).alloc (.cells #[.int .i64 S, .int .i64 A, .int .i64 B, .int .i64 H, .int .i64 M] 27)).cell? ⟨w.heap.size + 1, o, none⟩ := fun z o => z.cell (by simp <;> omega)
  have hl2 : ∀ (z : Later (((w.alloc (.cells #[.int .i64 px, .int .i64 py, .int .i64 vx, .int .i64 vy] 25)).alloc (.cells #[.int .i64 wx, .int .i64 wy] 23)).alloc (.cells #[.int .i64 S, .int .i64 A, .int .i64 B, .int .i64 H, .int .i64 M] 27))) (o : Nat), z.val.cell? ⟨w.heap.size + 1 + 1, o, none⟩ = (((w.alloc (.cells #[.int .i64 px, .int .i64 py, .int .i64 vx, .int .i64 vy] 25)).alloc (.cells #[.int .i64 wx, .int .i64 wy] 23)).alloc (.cells #[.int .i64 S, .int .i64 A, .int .i64 B, .int .i64 H, .int .i64 M] 27)).cell? ⟨w.heap.size + 1 + 1, o, none⟩ := fun z o => z.cell (by simp <;> omega)
  refine wp_region_later (Below.refl _ _) (by kernel_rfl) (by kernel_rfl) ?_
  repeat (go_big_quiet_step ((first
    | (go_at_call 15; with_reducible exact calls_later (HV.out _))
    | (go_at_call 17; with_reducible exact calls_later (HR.out _))
    | (go_at_call 18; with_reducible exact calls_later (HC.out _))
    | (go_at_call 19; with_reducible exact calls_later (HD.out _))
    | (go_at_call 14; exact calls_later (awake_any _)))))
  refine wpQuiet_nil ?_
  intro _ hw'
  obtain ⟨y0, hw''⟩ := hw'
  subst hw''
  go_wp2
  go_ret
  exact ⟨rfl, box3 y0.ok⟩

theorem own : ownKnob Try.prog.godebug = none := by kernel_rfl
set_option maxRecDepth 100000 in
theorem lifted (os : Os) (started : os.Started) (H : Type) (enc : TypeId × Value → H) :
    ReturnsInHanded {} Try.checked os 6 .any (Rows.motionStepsSpec.pre6 enc Try.prog Try.f6 Rows.motionStepsRow.domain false) (Rows.motionStepsSpec.post enc Try.prog Try.f6 false true false false) := by
  refine returnsInHanded_of_change (C := Try.checked) own started (by kernel_rfl) Try.func6
    (ChangeSpec.witness6 (enc := enc) (C := Try.checked) false ⟨#[], #[.agg #[.int .i64 0, .int .i64 0, .int .i64 0, .int .i64 0], .agg #[.int .i64 0, .int .i64 0], .agg #[.int .i64 0, .int .i64 0, .int .i64 0, .int .i64 0, .int .i64 0]], []⟩ 8 (by kernel_rfl) (by kernel_rfl) (by kernel_rfl) (by kernel_rfl)) ?_
  intro W base args ds gs before hval0 hW _ _
  have hval : ∀ (j : Nat) t v, Try.f6.params[j]? = some t → args[j]? = some v → Value.okWide Try.prog W .any base t v := hval0
  have hW' := hW
  obtain ⟨p, q, hA0, hV, rfl, hfz, hnd⟩ := hW
  have hA : DataW.TrodAll enc Try.prog W 0 (fun _ => true) true Try.f6.params.toList args.toList ds p := hA0
  rw [Try.params6] at hA hval
  obtain ⟨v0, vs0, d0, ds0, p0, q0, hargs, rfl, rfl, h0, r0⟩ := trodAll_cons hA
  obtain ⟨v1, vs1, d1, ds1, p1, q1, rfl, rfl, rfl, h1, r1⟩ := trodAll_cons r0
  obtain ⟨v2, vs2, d2, ds2, p2, q2, rfl, rfl, rfl, h2, r2⟩ := trodAll_cons r1
  obtain ⟨rfl, rfl, rfl⟩ := trodAll_nil r2
  obtain rfl : args = #[v0, v1, v2] := by cases args; simp_all
  obtain ⟨rfl, rfl⟩ := trodVars_none hV
  obtain ⟨a00, a01, a02, a03, rfl, w00, w01, w02, w03⟩ := open_mo Try.underlying25 (by kernel_rfl) rfl rfl rfl rfl (by kernel_rfl) Try.underlying23 (by kernel_rfl) Try.underlying3 rfl rfl (hval 0 25 v0 rfl rfl) h0
  obtain ⟨a10, a11, rfl, w10, w11⟩ := open_pt Try.underlying23 (by kernel_rfl) (by kernel_rfl) Try.underlying3 rfl rfl (hval 1 23 v1 rfl rfl) h1
  obtain ⟨a20, a21, a22, a23, a24, rfl, w20, w21, w22, w23, w24⟩ := open_ints5 Try.underlying27 (by kernel_rfl) (by kernel_rfl) Try.underlying3 rfl rfl rfl rfl rfl (hval 2 27 v2 rfl rfl) h2
  refine (walk a00 a01 a02 a03 w00 w01 w02 w03 a10 a11 w10 w11 a20 a21 a22 a23 a24 w20 w21 w22 w23 w24 W).mono fun e W' ⟨he, hb⟩ => ?_
  subst he
  exact ⟨_, rfl, law_post (by kernel_rfl) (by kernel_rfl) rfl (show Try.f6.resultTypes = #[4] by kernel_rfl) Try.underlying4 hW' rfl rfl rfl hb⟩
theorem over : Rows.motionStepsRow.holds Try.pinned (OpenSpec.ofChange Rows.motionStepsSpec) :=
  OpenClaim.holds_of_wide 6 Try.f6 rfl rfl rfl rfl rfl rfl rfl ⟨rfl, rfl, rfl, rfl, rfl⟩ rfl rfl rfl rfl rfl (by kernel_rfl) Try.func6 (by kernel_rfl)
    (of_decide_eq_true (by kernel_rfl)) (by unfold Func.isWrapper; first | (rw [if_pos (by decide +kernel)]; kernel_rfl) | (rw [if_neg (by decide +kernel)]; exact ⟨rfl, rfl⟩))
    (fun os started H enc _ => lifted os started H enc)
/-- THE STATEMENT. -/
theorem proved : Rows.MotionStepsSaid := over
#print axioms proved
end Go.Proofs.Ythfpdlkeagoamaa.motionSteps
