/- The law FixedSigns returns true for every input; its arguments read afterwards as before. No condition. -/
import Derived.Test.YteinfhfapelegaaWf
import Derived.Test.YteinfhfapelegaaFrame
import Derived.Test.YteinfhfapelegaaRows
namespace Go.Proofs.Yteinfhfapelegaa.fixedSigns
open Go.ChangeShapes Go.WideShapes Go.ChangeAt Go.RowKit

set_option linter.unusedVariables false

theorem mul_comm' (a b : Int) : mulI b a = mulI a b := by
  unfold mulI
  rw [Int.mul_comm (absI b), show negB b a = negB a b from by unfold negB; cases decide (a < 0) <;> cases decide (b < 0) <;> rfl]
theorem sat_not (n : Bool) (v : Int) : satI (!n) v = -satI n v := by unfold satI; cases n <;> simp
theorem mul_neg' (a b : Int) : mulI (-a) b = -mulI a b := by
  by_cases ha : a = 0
  · subst ha
    unfold mulI
    simp only [show absI (-0) = 0 from rfl, show absI 0 = 0 from rfl, Int.zero_mul]
    unfold satI
    simp only [show ((0 : Int) + 32768) / 65536 = 0 from by decide, show min (0 : Int) 140737488355328 = 0 from by decide]
    simp
  · have e1 : absI (-a) = absI a := by unfold absI; split <;> split <;> omega
    have e2 : negB (-a) b = !negB a b := by
      unfold negB
      rw [show decide (-a < 0) = !decide (a < 0) from by
        by_cases h : a < 0
        · simp [h]; omega
        · simp [h]; omega]
      cases decide (a < 0) <;> cases decide (b < 0) <;> rfl
    unfold mulI
    rw [e1, e2, sat_not]
theorem mul_one' (a : Int) (h1 : -140737488355328 ≤ a) (h2 : a ≤ 140737488355328) : mulI a 65536 = a := by
  unfold mulI
  rw [show absI 65536 = 65536 from rfl, show (absI a * 65536 + 32768) / 65536 = absI a from by omega]
  unfold satI negB absI
  by_cases h : a < 0
  · simp [h]; omega
  · simp [h]; omega
set_option maxHeartbeats 1000000 in
theorem stepsIn (a b M : Int) (h1 : -140737488355328 ≤ a) (h2 : a ≤ 140737488355328) (h3 : -140737488355328 ≤ b) (h4 : b ≤ 140737488355328) (e0 : mulI a b = M) (e1 : mulI b a = M) (e2 : mulI (-a) b = -M) (e3 : mulI a 65536 = a) (m1 : -140737488355328 ≤ M) (m2 : M ≤ 140737488355328) (w : World) : Calls Try.prog 4 #[.int .i64 a, .int .i64 b] w fun e w' => e = .returned (.bool true) ∧ Below w.heap.size w w' := by
  go_enter Try.func4, Try.ntmps4
  go_wp2_with (first
    | (go_at_call 10; refine (mul_any _ _ (by omega) (by omega) (by omega) (by omega) _).mono ?_; rintro e w' ⟨rfl, rfl⟩)
    | (go_at_call 12; refine (awake_any _).mono ?_; rintro e w' ⟨rfl, hb2⟩))
  go_ret
  exact ⟨rfl, hb2⟩
theorem mul_range (a b : Int) : -140737488355328 ≤ mulI a b ∧ mulI a b ≤ 140737488355328 := by
  have := absI_nonneg a
  have := absI_nonneg b
  have := Int.mul_nonneg (absI_nonneg a) (absI_nonneg b)
  exact sat_range _ (by omega)
set_option maxHeartbeats 1000000 in
theorem walk_out (a b : Int) (h : a < -140737488355328 ∨ 140737488355328 < a ∨ b < -140737488355328 ∨ 140737488355328 < b) (w : World) : Calls Try.prog 4 #[.int .i64 a, .int .i64 b] w fun e w' => e = .returned (.bool true) ∧ Below w.heap.size w w' := by
  by_cases h1 : a < -140737488355328
  · clear h
    go_enter Try.func4, Try.ntmps4
    go_wp2_with (first
      | (go_at_call 10; refine (mul_any _ _ (by omega) (by omega) (by omega) (by omega) _).mono ?_; rintro e w' ⟨rfl, rfl⟩)
      | (go_at_call 12; refine (awake_any _).mono ?_; rintro e w' ⟨rfl, hb2⟩))
    go_ret
    exact ⟨rfl, hb2⟩
  by_cases h2 : 140737488355328 < a
  · clear h
    go_enter Try.func4, Try.ntmps4
    go_wp2_with (first
      | (go_at_call 10; refine (mul_any _ _ (by omega) (by omega) (by omega) (by omega) _).mono ?_; rintro e w' ⟨rfl, rfl⟩)
      | (go_at_call 12; refine (awake_any _).mono ?_; rintro e w' ⟨rfl, hb2⟩))
    go_ret
    exact ⟨rfl, hb2⟩
  by_cases h3 : b < -140737488355328
  · clear h
    go_enter Try.func4, Try.ntmps4
    go_wp2_with (first
      | (go_at_call 10; refine (mul_any _ _ (by omega) (by omega) (by omega) (by omega) _).mono ?_; rintro e w' ⟨rfl, rfl⟩)
      | (go_at_call 12; refine (awake_any _).mono ?_; rintro e w' ⟨rfl, hb2⟩))
    go_ret
    exact ⟨rfl, hb2⟩
  have h4 : 140737488355328 < b := by omega
  clear h
  go_enter Try.func4, Try.ntmps4
  go_wp2_with (first
    | (go_at_call 10; refine (mul_any _ _ (by omega) (by omega) (by omega) (by omega) _).mono ?_; rintro e w' ⟨rfl, rfl⟩)
    | (go_at_call 12; refine (awake_any _).mono ?_; rintro e w' ⟨rfl, hb2⟩))
  go_ret
  exact ⟨rfl, hb2⟩
theorem walk (a0 : Int) (w0 : (Lit.int .i64 a0).wf = true) (a1 : Int) (w1 : (Lit.int .i64 a1).wf = true) (w : World) : Calls Try.prog 4 #[.int .i64 a0, .int .i64 a1] w fun e w' => e = .returned (.bool true) ∧ Below w.heap.size w w' := by
  by_cases h : a0 < -140737488355328 ∨ 140737488355328 < a0 ∨ a1 < -140737488355328 ∨ 140737488355328 < a1
  · exact walk_out _ _ h w
  · obtain ⟨m1, m2⟩ := mul_range a0 a1
    exact stepsIn a0 a1 _ (by omega) (by omega) (by omega) (by omega) rfl (mul_comm' _ _) (mul_neg' _ _) (mul_one' _ (by omega) (by omega)) m1 m2 w

theorem own : ownKnob Try.prog.godebug = none := by kernel_rfl
set_option maxRecDepth 100000 in
theorem lifted (os : Os) (started : os.Started) (H : Type) (enc : TypeId × Value → H) :
    ReturnsInHanded {} Try.checked os 4 .any (Rows.fixedSignsSpec.pre6 enc Try.prog Try.f4 Rows.fixedSignsRow.domain false) (Rows.fixedSignsSpec.post enc Try.prog Try.f4 false true false false) := by
  refine returnsInHanded_of_change (C := Try.checked) own started (by kernel_rfl) Try.func4
    (ChangeSpec.witness6 (enc := enc) (C := Try.checked) false ⟨#[], #[.int .i64 0, .int .i64 0], []⟩ 8 (by kernel_rfl) (by kernel_rfl) (by kernel_rfl) (by kernel_rfl)) ?_
  intro W base args ds gs before hval0 hW _ _
  have hval : ∀ (j : Nat) t v, Try.f4.params[j]? = some t → args[j]? = some v → Value.okWide Try.prog W .any base t v := hval0
  have hW' := hW
  obtain ⟨p, q, hA0, hV, rfl, hfz, hnd⟩ := hW
  have hA : DataW.TrodAll enc Try.prog W 0 (fun _ => true) true Try.f4.params.toList args.toList ds p := hA0
  rw [Try.params4] at hA hval
  obtain ⟨v0, vs0, d0, ds0, p0, q0, hargs, rfl, rfl, h0, r0⟩ := trodAll_cons hA
  obtain ⟨v1, vs1, d1, ds1, p1, q1, rfl, rfl, rfl, h1, r1⟩ := trodAll_cons r0
  obtain ⟨rfl, rfl, rfl⟩ := trodAll_nil r1
  obtain rfl : args = #[v0, v1] := by cases args; simp_all
  obtain ⟨rfl, rfl⟩ := trodVars_none hV
  obtain ⟨a0, rfl, rfl, rfl, w0⟩ := open_int Try.underlying2 (hval 0 2 v0 rfl rfl) h0
  obtain ⟨a1, rfl, rfl, rfl, w1⟩ := open_int Try.underlying2 (hval 1 2 v1 rfl rfl) h1
  refine (walk a0 w0 a1 w1 W).mono fun e W' ⟨he, hb⟩ => ?_
  subst he
  exact ⟨_, rfl, law_post (by kernel_rfl) (by kernel_rfl) rfl (show Try.f4.resultTypes = #[4] by kernel_rfl) Try.underlying4 hW' rfl rfl rfl hb⟩
theorem over : Rows.fixedSignsRow.holds Try.pinned (OpenSpec.ofChange Rows.fixedSignsSpec) :=
  OpenClaim.holds_of_wide 4 Try.f4 rfl rfl rfl rfl rfl rfl rfl ⟨rfl, rfl, rfl, rfl, rfl⟩ rfl rfl rfl rfl rfl (by kernel_rfl) Try.func4 (by kernel_rfl)
    (of_decide_eq_true (by kernel_rfl)) (by unfold Func.isWrapper; first | (rw [if_pos (by decide +kernel)]; kernel_rfl) | (rw [if_neg (by decide +kernel)]; exact ⟨rfl, rfl⟩))
    (fun os started H enc _ => lifted os started H enc)
/-- THE STATEMENT. -/
theorem proved : Rows.FixedSignsSaid := over
#print axioms proved
end Go.Proofs.Yteinfhfapelegaa.fixedSigns
