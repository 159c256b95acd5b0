/- The law BrakingMonotone returns true for every input; its arguments read afterwards as before. No condition. -/
import Derived.Test.YtanaficinidffaaL6w
import Derived.Test.YtanaficinidffaaFrame
import Derived.Test.YtanaficinidffaaRows
namespace Go.Proofs.Ytanaficinidffaa.brakingMonotone
open Go.ChangeShapes Go.WideShapes Go.ChangeAt Go.RowKit

set_option linter.unusedVariables false

theorem head_strict {v b : Int} (h1 : 1 ≤ v) (h2 : v ≤ 4096) (h3 : 1 ≤ b) (h4 : b ≤ 4096) : wayF (v - 1) b < wayF v b ∧ tckF (v - 1) b ≤ tckF v b := by
  have e1 := inB_true (n := v) (low := 0) (high := 4096) (by omega) h2
  have e2 := inB_true (n := v - 1) (low := 0) (high := 4096) (by omega) (by omega)
  have e3 := inB_true h3 h4
  simp only [wayF, tckF, e1, e2, e3, Bool.and_self, if_true]
  exact ⟨way_strict h1 h3, tck_mono (by omega) h3⟩
theorem head_anti {v b : Int} (h1 : 1 ≤ v) (h2 : v ≤ 4096) (h3 : 1 ≤ b) (h4 : b < 4096) : wayF v (b + 1) ≤ wayF v b ∧ tckF v (b + 1) ≤ tckF v b := by
  have e1 := inB_true (n := v) (low := 0) (high := 4096) (by omega) h2
  have e2 := inB_true (n := b + 1) (low := 1) (high := 4096) (by omega) (by omega)
  have e3 := inB_true (n := b) (low := 1) (high := 4096) h3 (by omega)
  simp only [wayF, tckF, e1, e2, e3, Bool.and_self, if_true]
  exact ⟨way_anti h3 (by omega) v (by omega), tck_anti (by omega) h3 (by omega)⟩
theorem tail_spd {g b : Int} (hg : 0 ≤ g) (h3 : 1 ≤ b) (h4 : b ≤ 4096) : 0 ≤ spdF g b ∧ spdF g b ≤ 4096 ∧ wayF (spdF g b) b ≤ g ∧ (spdF g b < 4096 → g < wayF (spdF g b + 1) b) ∧ spdF g b ≤ spdF (g + 1) b := by
  have e3 := inB_true h3 h4
  have d1 : decide (0 ≤ g) = true := decide_eq_true hg
  have d2 : decide (0 ≤ g + 1) = true := decide_eq_true (by omega)
  have f1 : spdF g b = spd g b := by simp only [spdF, e3, d1, Bool.and_self, if_true]
  have f2 : spdF (g + 1) b = spd (g + 1) b := by simp only [spdF, e3, d2, Bool.and_self, if_true]
  obtain ⟨s1, s2, s3, s4⟩ := spd_spec hg h3
  obtain ⟨u1, u2, u3, u4⟩ := spd_spec (w := g + 1) (by omega) h3
  rw [f1, f2]
  have w1 : wayF (spd g b) b = way (spd g b) b := by simp only [wayF, e3, inB_true s1 s2, Bool.and_self, if_true]
  refine ⟨s1, s2, by omega, fun h => ?_, ?_⟩
  · have w2 : wayF (spd g b + 1) b = way (spd g b + 1) b := by simp only [wayF, e3, inB_true (n := spd g b + 1) (low := 0) (high := 4096) (by omega) (by omega), Bool.and_self, if_true]
    rw [w2]
    exact s4 h
  · rcases Int.lt_or_le (spd (g + 1) b) (spd g b) with h | h
    · have := u4 (by omega)
      have := way_mono_le h3 (spd (g + 1) b + 1) (by omega) (spd g b) (by omega)
      omega
    · exact h
theorem tail_allow {g s a b h m : Int} : allowF g s a b h m ≤ allowF (g + 1) s a b h m := by
  cases e : safeF 0 g s a b h m
  · rw [allow_none e]
    cases e2 : safeF 0 (g + 1) s a b h m
    · rw [allow_none e2]; omega
    · have := (allow_spec e2).1; omega
  · have e2 : safeF 0 (g + 1) s a b h m = true := by
      rw [safe_iff] at e ⊢
      exact ⟨e.1, e.2.1, by omega⟩
    obtain ⟨a1, a2, a3, a4⟩ := allow_spec e
    obtain ⟨b1, b2, b3, b4⟩ := allow_spec e2
    rcases Int.lt_or_le (allowF (g + 1) s a b h m) (allowF g s a b h m) with hh | hh
    · have h1 := b4 _ hh a2
      have h2 : safeF (allowF g s a b h m) (g + 1) s a b h m = true := by
        rw [safe_iff] at a3 ⊢
        exact ⟨a3.1, a3.2.1, by omega⟩
      rw [h2] at h1; cases h1
    · exact hh
theorem walk (a0 : Int) (w0 : (Lit.int .i64 a0).wf = true) (a1 : Int) (w1 : (Lit.int .i64 a1).wf = true) (a2 : Int) (w2 : (Lit.int .i64 a2).wf = true) (a30 a31 a32 a33 a34 : Int) (w30 : (Lit.int .i64 a30).wf = true) (w31 : (Lit.int .i64 a31).wf = true) (w32 : (Lit.int .i64 a32).wf = true) (w33 : (Lit.int .i64 a33).wf = true) (w34 : (Lit.int .i64 a34).wf = true) (w : World) : Calls Try.prog 7 #[.int .i64 a0, .int .i64 a1, .int .i64 a2, lim a30 a31 a32 a33 a34] w fun e w' => e = .returned (.bool true) ∧ Below w.heap.size w w' := by
  have hg63 := (i64_range w2).2
  by_cases hb1 : a1 < 1
  · exact walk_B3 _ _ _ _ _ _ _ _ hg63 hb1 w
  by_cases hb2 : 4096 < a1
  · exact walk_B4 _ _ _ _ _ _ _ _ hg63 (by omega) hb2 w
  by_cases hv1 : a0 < 1
  · by_cases hg1 : a2 < 0
    · exact walk_B1_T1 _ _ _ _ _ _ _ _ hg63 hv1 (by omega) (by omega) hg1 w
    by_cases hg2 : 1152921504606846976 < a2
    · exact walk_B1_T2 _ _ _ _ _ _ _ _ hg63 hv1 (by omega) (by omega) (by omega) hg2 w
    obtain ⟨p1, p2, p3, p4, p5⟩ := tail_spd (g := a2) (b := a1) (by omega) (by omega) (by omega)
    by_cases hs : spdF a2 a1 < 4096
    · exact walk_B1_T3 _ _ _ _ _ _ _ _ hg63 hv1 (by omega) (by omega) (by omega) (by omega) _ _ _ _ _ _ rfl p1 hs rfl p3 rfl (p4 hs) rfl p5 rfl rfl tail_allow w
    · exact walk_B1_T4 _ _ _ _ _ _ _ _ hg63 hv1 (by omega) (by omega) (by omega) (by omega) _ _ _ _ _ rfl (by omega) rfl p3 rfl p5 rfl rfl tail_allow w
  by_cases hv2 : 4096 < a0
  · by_cases hg1 : a2 < 0
    · exact walk_B2_T1 _ _ _ _ _ _ _ _ hg63 (by omega) hv2 (by omega) (by omega) hg1 w
    by_cases hg2 : 1152921504606846976 < a2
    · exact walk_B2_T2 _ _ _ _ _ _ _ _ hg63 (by omega) hv2 (by omega) (by omega) (by omega) hg2 w
    obtain ⟨p1, p2, p3, p4, p5⟩ := tail_spd (g := a2) (b := a1) (by omega) (by omega) (by omega)
    by_cases hs : spdF a2 a1 < 4096
    · exact walk_B2_T3 _ _ _ _ _ _ _ _ hg63 (by omega) hv2 (by omega) (by omega) (by omega) (by omega) _ _ _ _ _ _ rfl p1 hs rfl p3 rfl (p4 hs) rfl p5 rfl rfl tail_allow w
    · exact walk_B2_T4 _ _ _ _ _ _ _ _ hg63 (by omega) hv2 (by omega) (by omega) (by omega) (by omega) _ _ _ _ _ rfl (by omega) rfl p3 rfl p5 rfl rfl tail_allow w
  obtain ⟨q1, q2⟩ := head_strict (v := a0) (b := a1) (by omega) (by omega) (by omega) (by omega)
  by_cases hb3 : a1 < 4096
  · obtain ⟨q3, q4⟩ := head_anti (v := a0) (b := a1) (by omega) (by omega) (by omega) hb3
    by_cases hg1 : a2 < 0
    · exact walk_A1_T1 _ _ _ _ _ _ _ _ hg63 (by omega) (by omega) (by omega) hb3 hg1 _ _ _ _ _ _ rfl rfl q1 rfl rfl q2 rfl q3 rfl q4 w
    by_cases hg2 : 1152921504606846976 < a2
    · exact walk_A1_T2 _ _ _ _ _ _ _ _ hg63 (by omega) (by omega) (by omega) hb3 (by omega) hg2 _ _ _ _ _ _ rfl rfl q1 rfl rfl q2 rfl q3 rfl q4 w
    obtain ⟨p1, p2, p3, p4, p5⟩ := tail_spd (g := a2) (b := a1) (by omega) (by omega) (by omega)
    by_cases hs : spdF a2 a1 < 4096
    · exact walk_A1_T3 _ _ _ _ _ _ _ _ hg63 (by omega) (by omega) (by omega) hb3 (by omega) (by omega) _ _ _ _ _ _ rfl rfl q1 rfl rfl q2 rfl q3 rfl q4 _ _ _ _ _ _ rfl p1 hs rfl p3 rfl (p4 hs) rfl p5 rfl rfl tail_allow w
    · exact walk_A1_T4 _ _ _ _ _ _ _ _ hg63 (by omega) (by omega) (by omega) hb3 (by omega) (by omega) _ _ _ _ _ _ rfl rfl q1 rfl rfl q2 rfl q3 rfl q4 _ _ _ _ _ rfl (by omega) rfl p3 rfl p5 rfl rfl tail_allow w
  · have hb4 : a1 = 4096 := by omega
    by_cases hg1 : a2 < 0
    · exact walk_A2_T1 _ _ _ _ _ _ _ _ hg63 (by omega) (by omega) hb4 hg1 _ _ _ _ rfl rfl q1 rfl rfl q2 w
    by_cases hg2 : 1152921504606846976 < a2
    · exact walk_A2_T2 _ _ _ _ _ _ _ _ hg63 (by omega) (by omega) hb4 (by omega) hg2 _ _ _ _ rfl rfl q1 rfl rfl q2 w
    obtain ⟨p1, p2, p3, p4, p5⟩ := tail_spd (g := a2) (b := a1) (by omega) (by omega) (by omega)
    by_cases hs : spdF a2 a1 < 4096
    · exact walk_A2_T3 _ _ _ _ _ _ _ _ hg63 (by omega) (by omega) hb4 (by omega) (by omega) _ _ _ _ rfl rfl q1 rfl rfl q2 _ _ _ _ _ _ rfl p1 hs rfl p3 rfl (p4 hs) rfl p5 rfl rfl tail_allow w
    · exact walk_A2_T4 _ _ _ _ _ _ _ _ hg63 (by omega) (by omega) hb4 (by omega) (by omega) _ _ _ _ rfl rfl q1 rfl rfl q2 _ _ _ _ _ rfl (by omega) rfl p3 rfl p5 rfl rfl tail_allow w

theorem own : ownKnob Try.prog.godebug = none := by kernel_rfl
set_option maxRecDepth 100000 in
theorem lifted (os : Os) (started : os.Started) (H : Type) (enc : TypeId × Value → H) :
    ReturnsInHanded {} Try.checked os 7 .any (Rows.brakingMonotoneSpec.pre6 enc Try.prog Try.f7 Rows.brakingMonotoneRow.domain false) (Rows.brakingMonotoneSpec.post enc Try.prog Try.f7 false true false false) := by
  refine returnsInHanded_of_change (C := Try.checked) own started (by kernel_rfl) Try.func7
    (ChangeSpec.witness6 (enc := enc) (C := Try.checked) false ⟨#[], #[.int .i64 0, .int .i64 0, .int .i64 0, .agg #[.int .i64 0, .int .i64 0, .int .i64 0, .int .i64 0, .int .i64 0]], []⟩ 8 (by kernel_rfl) (by kernel_rfl) (by kernel_rfl) (by kernel_rfl)) ?_
  intro W base args ds gs before hval0 hW _ _
  have hval : ∀ (j : Nat) t v, Try.f7.params[j]? = some t → args[j]? = some v → Value.okWide Try.prog W .any base t v := hval0
  have hW' := hW
  obtain ⟨p, q, hA0, hV, rfl, hfz, hnd⟩ := hW
  have hA : DataW.TrodAll enc Try.prog W 0 (fun _ => true) true Try.f7.params.toList args.toList ds p := hA0
  rw [Try.params7] at hA hval
  obtain ⟨v0, vs0, d0, ds0, p0, q0, hargs, rfl, rfl, h0, r0⟩ := trodAll_cons hA
  obtain ⟨v1, vs1, d1, ds1, p1, q1, rfl, rfl, rfl, h1, r1⟩ := trodAll_cons r0
  obtain ⟨v2, vs2, d2, ds2, p2, q2, rfl, rfl, rfl, h2, r2⟩ := trodAll_cons r1
  obtain ⟨v3, vs3, d3, ds3, p3, q3, rfl, rfl, rfl, h3, r3⟩ := trodAll_cons r2
  obtain ⟨rfl, rfl, rfl⟩ := trodAll_nil r3
  obtain rfl : args = #[v0, v1, v2, v3] := by cases args; simp_all
  obtain ⟨rfl, rfl⟩ := trodVars_none hV
  obtain ⟨a0, rfl, rfl, rfl, w0⟩ := open_int Try.underlying3 (hval 0 3 v0 rfl rfl) h0
  obtain ⟨a1, rfl, rfl, rfl, w1⟩ := open_int Try.underlying3 (hval 1 3 v1 rfl rfl) h1
  obtain ⟨a2, rfl, rfl, rfl, w2⟩ := open_int Try.underlying3 (hval 2 3 v2 rfl rfl) h2
  obtain ⟨a30, a31, a32, a33, a34, rfl, w30, w31, w32, w33, w34⟩ := open_ints5 Try.underlying23 (by kernel_rfl) (by kernel_rfl) Try.underlying3 rfl rfl rfl rfl rfl (hval 3 23 v3 rfl rfl) h3
  refine (walk a0 w0 a1 w1 a2 w2 a30 a31 a32 a33 a34 w30 w31 w32 w33 w34 W).mono fun e W' ⟨he, hb⟩ => ?_
  subst he
  exact ⟨_, rfl, law_post (by kernel_rfl) (by kernel_rfl) rfl (show Try.f7.resultTypes = #[4] by kernel_rfl) Try.underlying4 hW' rfl rfl rfl hb⟩
theorem over : Rows.brakingMonotoneRow.holds Try.pinned (OpenSpec.ofChange Rows.brakingMonotoneSpec) :=
  OpenClaim.holds_of_wide 7 Try.f7 rfl rfl rfl rfl rfl rfl rfl ⟨rfl, rfl, rfl, rfl, rfl⟩ rfl rfl rfl rfl rfl (by kernel_rfl) Try.func7 (by kernel_rfl)
    (of_decide_eq_true (by kernel_rfl)) (by unfold Func.isWrapper; first | (rw [if_pos (by decide +kernel)]; kernel_rfl) | (rw [if_neg (by decide +kernel)]; exact ⟨rfl, rfl⟩))
    (fun os started H enc _ => lifted os started H enc)
/-- THE STATEMENT. -/
theorem proved : Rows.BrakingMonotoneSaid := over
#print axioms proved
end Go.Proofs.Ytanaficinidffaa.brakingMonotone
