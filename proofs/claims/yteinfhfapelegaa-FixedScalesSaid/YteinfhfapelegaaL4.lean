/- The law FixedScales returns true for every input; its arguments read afterwards as before. No condition. -/
import Derived.Test.YteinfhfapelegaaL4w
import Derived.Test.YteinfhfapelegaaFrame
import Derived.Test.YteinfhfapelegaaRows
namespace Go.Proofs.Yteinfhfapelegaa.fixedScales
open Go.ChangeShapes Go.WideShapes Go.ChangeAt Go.RowKit

set_option linter.unusedVariables false

theorem i32_range {a : Int} (h : (Lit.int .i32 a).wf = true) : -2147483648 ≤ a ∧ a ≤ 2147483647 := by
  simp [Lit.wf, IntKind.min, IntKind.max, IntKind.signed, IntKind.bits] at h
  omega
theorem lim_sq {X Y m L : Int} (hmL : (m ≤ 0 ∧ L = 0) ∨ (0 < m ∧ m ≤ 2097152 ∧ L = m) ∨ (2097152 < m ∧ L = 2097152)) (h2 : sqr X Y ≤ 2199023255552) (hs : sqr (scl (sqr X Y) X (max m 0)) (scl (sqr X Y) Y (max m 0)) ≤ max m 0 * max m 0) :
    0 ≤ L * L ∧ L * L ≤ 4398046511104 ∧ sqr (scl (sqr X Y) X (max m 0)) (scl (sqr X Y) Y (max m 0)) ≤ L * L ∧ (L * L < sqr X Y ∨ (sqr X Y ≤ L * L ∧ scl (sqr X Y) X (max m 0) = X ∧ scl (sqr X Y) Y (max m 0) = Y)) := by
  rcases hmL with ⟨m1, rfl⟩ | ⟨m1, m2, rfl⟩ | ⟨m1, rfl⟩
  · rw [show max m 0 = 0 from by omega] at hs ⊢
    refine ⟨by decide, by decide, hs, ?_⟩
    rcases Int.lt_or_le (0 * 0) (sqr X Y) with h | h
    · exact Or.inl h
    · exact Or.inr ⟨h, scl_id h, scl_id h⟩
  · rw [show max L 0 = L from by omega] at hs ⊢
    have h1 : 0 ≤ L * L := Int.mul_nonneg (by omega) (by omega)
    have h3 := sq_le (a := L) (b := 2097152) (by omega) m2
    refine ⟨h1, by omega, hs, ?_⟩
    rcases Int.lt_or_le (L * L) (sqr X Y) with h | h
    · exact Or.inl h
    · exact Or.inr ⟨h, scl_id h, scl_id h⟩
  · rw [show max m 0 = m from by omega] at hs ⊢
    have h3 := sq_le (a := 2097152) (b := m) (by omega) (by omega)
    have h : sqr X Y ≤ m * m := by omega
    have e : (2097152 : Int) * 2097152 = 4398046511104 := by decide
    refine ⟨by decide, by decide, ?_, Or.inr ⟨by omega, scl_id h, scl_id h⟩⟩
    rw [scl_id h, scl_id h]
    omega
theorem walk (a0 : Int) (w0 : (Lit.int .i32 a0).wf = true) (a1 : Int) (w1 : (Lit.int .i32 a1).wf = true) (a2 : Int) (w2 : (Lit.int .i64 a2).wf = true) (w : World) : Calls Try.prog 7 #[.int .i32 a0, .int .i32 a1, .int .i64 a2] w fun e w' => e = .returned (.bool true) ∧ Below w.heap.size w w' := by
  obtain ⟨x1, x2⟩ := i32_range w0
  obtain ⟨y1, y2⟩ := i32_range w1
  obtain ⟨X1, X2⟩ := tmod_range a0
  obtain ⟨Y1, Y2⟩ := tmod_range a1
  generalize eX : a0.tmod 1048577 = X at *
  generalize eY : a1.tmod 1048577 = Y at *
  have hn := sqr_nonneg X Y
  have hn2 := sqr_le X1 X2 Y1 Y2
  have e20 : (1048576 : Int) * 1048576 = 1099511627776 := by decide
  obtain ⟨f1, f2, f3, f4, f5⟩ := scl_spec (x := X) (y := Y) (l := max a2 0) (by omega) (by omega)
  have hmL : ∃ L : Int, (a2 ≤ 0 ∧ L = 0) ∨ (0 < a2 ∧ a2 ≤ 2097152 ∧ L = a2) ∨ (2097152 < a2 ∧ L = 2097152) := by
    by_cases h1 : a2 ≤ 0
    · exact ⟨0, Or.inl ⟨h1, rfl⟩⟩
    by_cases h2 : a2 ≤ 2097152
    · exact ⟨a2, Or.inr (Or.inl ⟨by omega, h2, rfl⟩)⟩
    · exact ⟨2097152, Or.inr (Or.inr ⟨by omega, rfl⟩)⟩
  obtain ⟨L, hL⟩ := hmL
  obtain ⟨k1, k2, k3, k4⟩ := lim_sq hL (by omega) f5
  have g2 := sq_abs_le (x := scl (sqr X Y) X (max a2 0)) (b := 1048576) (by rcases Int.lt_or_le X 0 with h | h; (have := f2 (by omega); omega); (have := f1 h; omega)) (by rcases Int.lt_or_le X 0 with h | h; (have := f2 (by omega); omega); (have := f1 h; omega))
  have g4 := sq_abs_le (x := scl (sqr X Y) Y (max a2 0)) (b := 1048576) (by rcases Int.lt_or_le Y 0 with h | h; (have := f4 (by omega); omega); (have := f3 h; omega)) (by rcases Int.lt_or_le Y 0 with h | h; (have := f4 (by omega); omega); (have := f3 h; omega))
  exact core a0 a1 a2 X Y _ _ L x1 x2 y1 y2 eX eY X1 X2 Y1 Y2 rfl rfl (hid f1) (hid f2) (hid f3) (hid f4) (sq_self_nonneg _) (by omega) (sq_self_nonneg _) (by omega) (hid hL) k1 k2 k3 hn (by omega) (hid k4) w

theorem own : ownKnob Try.prog.godebug = none := by kernel_rfl
set_option maxRecDepth 100000 in
theorem lifted (os : Os) (started : os.Started) (H : Type) (enc : TypeId × Value → H) :
    ReturnsInHanded {} Try.checked os 7 .any (Rows.fixedScalesSpec.pre6 enc Try.prog Try.f7 Rows.fixedScalesRow.domain false) (Rows.fixedScalesSpec.post enc Try.prog Try.f7 false true false false) := by
  refine returnsInHanded_of_change (C := Try.checked) own started (by kernel_rfl) Try.func7
    (ChangeSpec.witness6 (enc := enc) (C := Try.checked) false ⟨#[], #[.int .i32 0, .int .i32 0, .int .i64 0], []⟩ 8 (by kernel_rfl) (by kernel_rfl) (by kernel_rfl) (by kernel_rfl)) ?_
  intro W base args ds gs before hval0 hW _ _
  have hval : ∀ (j : Nat) t v, Try.f7.params[j]? = some t → args[j]? = some v → Value.okWide Try.prog W .any base t v := hval0
  have hW' := hW
  obtain ⟨p, q, hA0, hV, rfl, hfz, hnd⟩ := hW
  have hA : DataW.TrodAll enc Try.prog W 0 (fun _ => true) true Try.f7.params.toList args.toList ds p := hA0
  rw [Try.params7] at hA hval
  obtain ⟨v0, vs0, d0, ds0, p0, q0, hargs, rfl, rfl, h0, r0⟩ := trodAll_cons hA
  obtain ⟨v1, vs1, d1, ds1, p1, q1, rfl, rfl, rfl, h1, r1⟩ := trodAll_cons r0
  obtain ⟨v2, vs2, d2, ds2, p2, q2, rfl, rfl, rfl, h2, r2⟩ := trodAll_cons r1
  obtain ⟨rfl, rfl, rfl⟩ := trodAll_nil r2
  obtain rfl : args = #[v0, v1, v2] := by cases args; simp_all
  obtain ⟨rfl, rfl⟩ := trodVars_none hV
  obtain ⟨a0, rfl, rfl, rfl, w0⟩ := open_int Try.underlying21 (hval 0 21 v0 rfl rfl) h0
  obtain ⟨a1, rfl, rfl, rfl, w1⟩ := open_int Try.underlying21 (hval 1 21 v1 rfl rfl) h1
  obtain ⟨a2, rfl, rfl, rfl, w2⟩ := open_int Try.underlying3 (hval 2 3 v2 rfl rfl) h2
  refine (walk a0 w0 a1 w1 a2 w2 W).mono fun e W' ⟨he, hb⟩ => ?_
  subst he
  exact ⟨_, rfl, law_post (by kernel_rfl) (by kernel_rfl) rfl (show Try.f7.resultTypes = #[4] by kernel_rfl) Try.underlying4 hW' rfl rfl rfl hb⟩
theorem over : Rows.fixedScalesRow.holds Try.pinned (OpenSpec.ofChange Rows.fixedScalesSpec) :=
  OpenClaim.holds_of_wide 7 Try.f7 rfl rfl rfl rfl rfl rfl rfl ⟨rfl, rfl, rfl, rfl, rfl⟩ rfl rfl rfl rfl rfl (by kernel_rfl) Try.func7 (by kernel_rfl)
    (of_decide_eq_true (by kernel_rfl)) (by unfold Func.isWrapper; first | (rw [if_pos (by decide +kernel)]; kernel_rfl) | (rw [if_neg (by decide +kernel)]; exact ⟨rfl, rfl⟩))
    (fun os started H enc _ => lifted os started H enc)
/-- THE STATEMENT. -/
theorem proved : Rows.FixedScalesSaid := over
#print axioms proved
end Go.Proofs.Yteinfhfapelegaa.fixedScales
