/- The law BrakingNeeds returns true for every input; its arguments read afterwards as before. No condition. -/
import Derived.Test.YtanaficinidffaaWd
import Derived.Test.YtanaficinidffaaFrame
import Derived.Test.YtanaficinidffaaRows
namespace Go.Proofs.Ytanaficinidffaa.brakingNeeds
open Go.ChangeShapes Go.WideShapes Go.ChangeAt Go.RowKit

set_option linter.unusedVariables false
set_option maxHeartbeats 2000000 in
theorem walk (a0 : Int) (w0 : (Lit.int .i64 a0).wf = true) (a1 : Int) (w1 : (Lit.int .i64 a1).wf = true) (a20 a21 a22 a23 a24 : Int) (w20 : (Lit.int .i64 a20).wf = true) (w21 : (Lit.int .i64 a21).wf = true) (w22 : (Lit.int .i64 a22).wf = true) (w23 : (Lit.int .i64 a23).wf = true) (w24 : (Lit.int .i64 a24).wf = true) (w : World) : Calls Try.prog 5 #[.int .i64 a0, .int .i64 a1, lim a20 a21 a22 a23 a24] w fun e w' => e = .returned (.bool true) ∧ Below w.heap.size w w' := by
  go_enter Try.func5, Try.ntmps5
  go_wp2
  refine wp_region_later (Below.refl _ _) (by kernel_rfl) (by kernel_rfl) ?_
  have hl : ∀ (x : Later (w.alloc (.cells #[.int .i64 a20, .int .i64 a21, .int .i64 a22, .int .i64 a23, .int .i64 a24] 23))) (o : Nat),
      x.val.cell? ⟨w.heap.size, o, none⟩ = (w.alloc (.cells #[.int .i64 a20, .int .i64 a21, .int .i64 a22, .int .i64 a23, .int .i64 a24] 23)).cell? ⟨w.heap.size, o, none⟩ := fun x o => x.cell (by simp)
  repeat (go_big_quiet_step (first
    | (go_at_call 14; exact calls_later (need_any _ _ _ _ _ _ _))
    | (go_at_call 21; exact calls_later (rneed_any _ _ _ _ _ _ _))
    | (go_at_call 10; exact calls_later (safe_any _ _ _ _ _ _ _ _))
    | (go_at_call 11; exact calls_later (rsafe_any _ _ _ _ _ _ _ _))
    | (go_at_call 22; exact calls_later (allow_any _ _ _ _ _ _ _))
    | (go_at_call 23; exact calls_later (rallow_any _ _ _ _ _ _ _))
    | (go_at_call 12; exact calls_later (awake_any _))))
  refine wpQuiet_nil ?_
  intro _ hw'
  obtain ⟨y, hw''⟩ := hw'
  subst hw''
  clear hl
  go_wp2
  go_ret
  exact ⟨rfl, below_box y.ok⟩

theorem own : ownKnob Try.prog.godebug = none := by kernel_rfl
set_option maxRecDepth 100000 in
theorem lifted (os : Os) (started : os.Started) (H : Type) (enc : TypeId × Value → H) :
    ReturnsInHanded {} Try.checked os 5 .any (Rows.brakingNeedsSpec.pre6 enc Try.prog Try.f5 Rows.brakingNeedsRow.domain false) (Rows.brakingNeedsSpec.post enc Try.prog Try.f5 false true false false) := by
  refine returnsInHanded_of_change (C := Try.checked) own started (by kernel_rfl) Try.func5
    (ChangeSpec.witness6 (enc := enc) (C := Try.checked) false ⟨#[], #[.int .i64 0, .int .i64 0, .agg #[.int .i64 0, .int .i64 0, .int .i64 0, .int .i64 0, .int .i64 0]], []⟩ 8 (by kernel_rfl) (by kernel_rfl) (by kernel_rfl) (by kernel_rfl)) ?_
  intro W base args ds gs before hval0 hW _ _
  have hval : ∀ (j : Nat) t v, Try.f5.params[j]? = some t → args[j]? = some v → Value.okWide Try.prog W .any base t v := hval0
  have hW' := hW
  obtain ⟨p, q, hA0, hV, rfl, hfz, hnd⟩ := hW
  have hA : DataW.TrodAll enc Try.prog W 0 (fun _ => true) true Try.f5.params.toList args.toList ds p := hA0
  rw [Try.params5] at hA hval
  obtain ⟨v0, vs0, d0, ds0, p0, q0, hargs, rfl, rfl, h0, r0⟩ := trodAll_cons hA
  obtain ⟨v1, vs1, d1, ds1, p1, q1, rfl, rfl, rfl, h1, r1⟩ := trodAll_cons r0
  obtain ⟨v2, vs2, d2, ds2, p2, q2, rfl, rfl, rfl, h2, r2⟩ := trodAll_cons r1
  obtain ⟨rfl, rfl, rfl⟩ := trodAll_nil r2
  obtain rfl : args = #[v0, v1, v2] := by cases args; simp_all
  obtain ⟨rfl, rfl⟩ := trodVars_none hV
  obtain ⟨a0, rfl, rfl, rfl, w0⟩ := open_int Try.underlying3 (hval 0 3 v0 rfl rfl) h0
  obtain ⟨a1, rfl, rfl, rfl, w1⟩ := open_int Try.underlying3 (hval 1 3 v1 rfl rfl) h1
  obtain ⟨a20, a21, a22, a23, a24, rfl, w20, w21, w22, w23, w24⟩ := open_ints5 Try.underlying23 (by kernel_rfl) (by kernel_rfl) Try.underlying3 rfl rfl rfl rfl rfl (hval 2 23 v2 rfl rfl) h2
  refine (walk a0 w0 a1 w1 a20 a21 a22 a23 a24 w20 w21 w22 w23 w24 W).mono fun e W' ⟨he, hb⟩ => ?_
  subst he
  exact ⟨_, rfl, law_post (by kernel_rfl) (by kernel_rfl) rfl (show Try.f5.resultTypes = #[4] by kernel_rfl) Try.underlying4 hW' rfl rfl rfl hb⟩
theorem over : Rows.brakingNeedsRow.holds Try.pinned (OpenSpec.ofChange Rows.brakingNeedsSpec) :=
  OpenClaim.holds_of_wide 5 Try.f5 rfl rfl rfl rfl rfl rfl rfl ⟨rfl, rfl, rfl, rfl, rfl⟩ rfl rfl rfl rfl rfl (by kernel_rfl) Try.func5 (by kernel_rfl)
    (of_decide_eq_true (by kernel_rfl)) (by unfold Func.isWrapper; first | (rw [if_pos (by decide +kernel)]; kernel_rfl) | (rw [if_neg (by decide +kernel)]; exact ⟨rfl, rfl⟩))
    (fun os started H enc _ => lifted os started H enc)
/-- THE STATEMENT. -/
theorem proved : Rows.BrakingNeedsSaid := over
#print axioms proved
end Go.Proofs.Ytanaficinidffaa.brakingNeeds
