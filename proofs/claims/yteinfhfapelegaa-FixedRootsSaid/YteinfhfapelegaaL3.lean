/- The law FixedRoots returns true for every input; its arguments read afterwards as before. No condition. -/
import Derived.Test.YteinfhfapelegaaWf
import Derived.Test.YteinfhfapelegaaFrame
import Derived.Test.YteinfhfapelegaaRows
namespace Go.Proofs.Yteinfhfapelegaa.fixedRoots
open Go.ChangeShapes Go.WideShapes Go.ChangeAt Go.RowKit

set_option linter.unusedVariables false

theorem clamp_in {n lo hi : Int} (h : lo ≤ hi) : lo ≤ clampI n lo hi ∧ clampI n lo hi ≤ hi := by
  unfold clampI; (repeat' split) <;> omega
set_option maxHeartbeats 2000000 in
theorem walk_core (n lo hi c r : Int) (hn1 : -9223372036854775808 ≤ n) (hn2 : n ≤ 9223372036854775807) (ec : clampI n lo hi = c) (er : isq n = r) (hc : lo ≤ hi → lo ≤ c ∧ c ≤ hi) (hr : n < 0 → r = 0) (hr2 : 0 ≤ n → 0 ≤ r ∧ r ≤ 3037000499 ∧ r * r ≤ n ∧ n - r * r ≤ 2 * r) (w : World) : Calls Try.prog 6 #[.int .i64 n, .int .i64 lo, .int .i64 hi] w fun e w' => e = .returned (.bool true) ∧ Below w.heap.size w w' := by
  by_cases hl : lo ≤ hi
  · obtain ⟨c1, c2⟩ := hc hl
    clear hc
    by_cases h0 : n < 0
    · have hr0 := hr h0
      subst hr0
      clear hr2 hr
      go_enter Try.func6, Try.ntmps6
      go_wp2_with (first
          | (go_at_call 25; refine (root_any _ (by omega) _).mono ?_; rintro e w' ⟨rfl, rfl⟩)
          | (go_at_call 26; refine (clamp_any _ _ _ _).mono ?_; rintro e w' ⟨rfl, rfl⟩)
          | (go_at_call 27; refine (rclamp_any _ _ _ _).mono ?_; rintro e w' ⟨rfl, rfl⟩)
          | (go_at_call 12; refine (awake_any _).mono ?_; rintro e w' ⟨rfl, hb2⟩))
      go_ret
      exact ⟨rfl, hb2⟩
    · obtain ⟨q1, q2, q3, q4⟩ := hr2 (by omega)
      have q5 : 0 ≤ r * r := Int.mul_nonneg q1 q1
      clear hr2 hr
      by_cases h1 : r = 3037000499
      · subst h1
        go_enter Try.func6, Try.ntmps6
        go_wp2_with (first
          | (go_at_call 25; refine (root_any _ (by omega) _).mono ?_; rintro e w' ⟨rfl, rfl⟩)
          | (go_at_call 26; refine (clamp_any _ _ _ _).mono ?_; rintro e w' ⟨rfl, rfl⟩)
          | (go_at_call 27; refine (rclamp_any _ _ _ _).mono ?_; rintro e w' ⟨rfl, rfl⟩)
          | (go_at_call 12; refine (awake_any _).mono ?_; rintro e w' ⟨rfl, hb2⟩))
        go_ret
        exact ⟨rfl, hb2⟩
      · have h1' : (r == 3037000499) = false := by simpa using h1
        clear h1
        go_enter Try.func6, Try.ntmps6
        go_wp2_with (first
          | (go_at_call 25; refine (root_any _ (by omega) _).mono ?_; rintro e w' ⟨rfl, rfl⟩)
          | (go_at_call 26; refine (clamp_any _ _ _ _).mono ?_; rintro e w' ⟨rfl, rfl⟩)
          | (go_at_call 27; refine (rclamp_any _ _ _ _).mono ?_; rintro e w' ⟨rfl, rfl⟩)
          | (go_at_call 12; refine (awake_any _).mono ?_; rintro e w' ⟨rfl, hb2⟩))
        go_ret
        exact ⟨rfl, hb2⟩
  · have hl' : hi < lo := by omega
    clear hc hl
    by_cases h0 : n < 0
    · have hr0 := hr h0
      subst hr0
      clear hr2 hr
      go_enter Try.func6, Try.ntmps6
      go_wp2_with (first
          | (go_at_call 25; refine (root_any _ (by omega) _).mono ?_; rintro e w' ⟨rfl, rfl⟩)
          | (go_at_call 26; refine (clamp_any _ _ _ _).mono ?_; rintro e w' ⟨rfl, rfl⟩)
          | (go_at_call 27; refine (rclamp_any _ _ _ _).mono ?_; rintro e w' ⟨rfl, rfl⟩)
          | (go_at_call 12; refine (awake_any _).mono ?_; rintro e w' ⟨rfl, hb2⟩))
      go_ret
      exact ⟨rfl, hb2⟩
    · obtain ⟨q1, q2, q3, q4⟩ := hr2 (by omega)
      have q5 : 0 ≤ r * r := Int.mul_nonneg q1 q1
      clear hr2 hr
      by_cases h1 : r = 3037000499
      · subst h1
        go_enter Try.func6, Try.ntmps6
        go_wp2_with (first
          | (go_at_call 25; refine (root_any _ (by omega) _).mono ?_; rintro e w' ⟨rfl, rfl⟩)
          | (go_at_call 26; refine (clamp_any _ _ _ _).mono ?_; rintro e w' ⟨rfl, rfl⟩)
          | (go_at_call 27; refine (rclamp_any _ _ _ _).mono ?_; rintro e w' ⟨rfl, rfl⟩)
          | (go_at_call 12; refine (awake_any _).mono ?_; rintro e w' ⟨rfl, hb2⟩))
        go_ret
        exact ⟨rfl, hb2⟩
      · have h1' : (r == 3037000499) = false := by simpa using h1
        clear h1
        go_enter Try.func6, Try.ntmps6
        go_wp2_with (first
          | (go_at_call 25; refine (root_any _ (by omega) _).mono ?_; rintro e w' ⟨rfl, rfl⟩)
          | (go_at_call 26; refine (clamp_any _ _ _ _).mono ?_; rintro e w' ⟨rfl, rfl⟩)
          | (go_at_call 27; refine (rclamp_any _ _ _ _).mono ?_; rintro e w' ⟨rfl, rfl⟩)
          | (go_at_call 12; refine (awake_any _).mono ?_; rintro e w' ⟨rfl, hb2⟩))
        go_ret
        exact ⟨rfl, hb2⟩
theorem walk (a0 : Int) (w0 : (Lit.int .i64 a0).wf = true) (a1 : Int) (w1 : (Lit.int .i64 a1).wf = true) (a2 : Int) (w2 : (Lit.int .i64 a2).wf = true) (w : World) : Calls Try.prog 6 #[.int .i64 a0, .int .i64 a1, .int .i64 a2] w fun e w' => e = .returned (.bool true) ∧ Below w.heap.size w w' := by
  obtain ⟨r0, s0⟩ := i64_range w0
  refine walk_core a0 a1 a2 _ _ r0 s0 rfl rfl (fun h => clamp_in h) (fun h => isq_neg (by omega)) (fun h => ?_) w
  obtain ⟨q1, q2, q3⟩ := isq_spec h (by omega)
  obtain ⟨_, q4⟩ := isq_le s0
  refine ⟨q1, q4, q2, ?_⟩
  have e : (isq a0 + 1) * (isq a0 + 1) = isq a0 * isq a0 + 2 * isq a0 + 1 := by rw [Int.add_mul, Int.mul_add]; omega
  omega

theorem own : ownKnob Try.prog.godebug = none := by kernel_rfl
set_option maxRecDepth 100000 in
theorem lifted (os : Os) (started : os.Started) (H : Type) (enc : TypeId × Value → H) :
    ReturnsInHanded {} Try.checked os 6 .any (Rows.fixedRootsSpec.pre6 enc Try.prog Try.f6 Rows.fixedRootsRow.domain false) (Rows.fixedRootsSpec.post enc Try.prog Try.f6 false true false false) := by
  refine returnsInHanded_of_change (C := Try.checked) own started (by kernel_rfl) Try.func6
    (ChangeSpec.witness6 (enc := enc) (C := Try.checked) false ⟨#[], #[.int .i64 0, .int .i64 0, .int .i64 0], []⟩ 8 (by kernel_rfl) (by kernel_rfl) (by kernel_rfl) (by kernel_rfl)) ?_
  intro W base args ds gs before hval0 hW _ _
  have hval : ∀ (j : Nat) t v, Try.f6.params[j]? = some t → args[j]? = some v → Value.okWide Try.prog W .any base t v := hval0
  have hW' := hW
  obtain ⟨p, q, hA0, hV, rfl, hfz, hnd⟩ := hW
  have hA : DataW.TrodAll enc Try.prog W 0 (fun _ => true) true Try.f6.params.toList args.toList ds p := hA0
  rw [Try.params6] at hA hval
  obtain ⟨v0, vs0, d0, ds0, p0, q0, hargs, rfl, rfl, h0, r0⟩ := trodAll_cons hA
  obtain ⟨v1, vs1, d1, ds1, p1, q1, rfl, rfl, rfl, h1, r1⟩ := trodAll_cons r0
  obtain ⟨v2, vs2, d2, ds2, p2, q2, rfl, rfl, rfl, h2, r2⟩ := trodAll_cons r1
  obtain ⟨rfl, rfl, rfl⟩ := trodAll_nil r2
  obtain rfl : args = #[v0, v1, v2] := by cases args; simp_all
  obtain ⟨rfl, rfl⟩ := trodVars_none hV
  obtain ⟨a0, rfl, rfl, rfl, w0⟩ := open_int Try.underlying2 (hval 0 2 v0 rfl rfl) h0
  obtain ⟨a1, rfl, rfl, rfl, w1⟩ := open_int Try.underlying2 (hval 1 2 v1 rfl rfl) h1
  obtain ⟨a2, rfl, rfl, rfl, w2⟩ := open_int Try.underlying2 (hval 2 2 v2 rfl rfl) h2
  refine (walk a0 w0 a1 w1 a2 w2 W).mono fun e W' ⟨he, hb⟩ => ?_
  subst he
  exact ⟨_, rfl, law_post (by kernel_rfl) (by kernel_rfl) rfl (show Try.f6.resultTypes = #[4] by kernel_rfl) Try.underlying4 hW' rfl rfl rfl hb⟩
theorem over : Rows.fixedRootsRow.holds Try.pinned (OpenSpec.ofChange Rows.fixedRootsSpec) :=
  OpenClaim.holds_of_wide 6 Try.f6 rfl rfl rfl rfl rfl rfl rfl ⟨rfl, rfl, rfl, rfl, rfl⟩ rfl rfl rfl rfl rfl (by kernel_rfl) Try.func6 (by kernel_rfl)
    (of_decide_eq_true (by kernel_rfl)) (by unfold Func.isWrapper; first | (rw [if_pos (by decide +kernel)]; kernel_rfl) | (rw [if_neg (by decide +kernel)]; exact ⟨rfl, rfl⟩))
    (fun os started H enc _ => lifted os started H enc)
/-- THE STATEMENT. -/
theorem proved : Rows.FixedRootsSaid := over
#print axioms proved
end Go.Proofs.Yteinfhfapelegaa.fixedRoots
