/- The law MotionRuns returns true for every input; its arguments read afterwards as before. No condition. -/
import Derived.Test.YthfpdlkeagoamaaL6w
import Derived.Test.YthfpdlkeagoamaaRows
namespace Go.Proofs.Ythfpdlkeagoamaa.motionRuns
open Go.ChangeShapes Go.WideShapes Go.ChangeAt Go.RowKit

set_option linter.unusedVariables false
theorem walk (px : Int) (py : Int) (vx : Int) (vy : Int) (hpx : (Lit.int .i64 px).wf = true) (hpy : (Lit.int .i64 py).wf = true) (hvx : (Lit.int .i64 vx).wf = true) (hvy : (Lit.int .i64 vy).wf = true) (a : Option Addr) (len cap : Nat) (X Y : Nat → Int) (hl : len ≤ maxLen) (hn : a = none → len = 0) (S : Int) (A : Int) (B : Int) (H : Int) (M : Int) (hS : (Lit.int .i64 S).wf = true) (hA : (Lit.int .i64 A).wf = true) (hB : (Lit.int .i64 B).wf = true) (hH : (Lit.int .i64 H).wf = true) (hM : (Lit.int .i64 M).wf = true) (w : World)
    (ha : 0 < len → ∃ b off, a = some ⟨b, off, none⟩ ∧ b < w.heap.size ∧ ∀ i, i < len → w.cell? ⟨b, off + i * 2, none⟩ = some (.int .i64 (X i)) ∧ w.cell? ⟨b, off + (i * 2 + 1), none⟩ = some (.int .i64 (Y i)) ∧ (Lit.int .i64 (X i)).wf = true ∧ (Lit.int .i64 (Y i)).wf = true) :
    Calls Try.prog 8 #[mo px py vx vy, .slice a len cap, lim S A B H M] w fun e w' => e = .returned (.bool true) ∧ Below w.heap.size w w' := by
  rcases Nat.lt_or_ge 60 len with h | h
  · exact long px py vx vy a len cap S A B H M h w
  · exact core ⟨px, py, vx, vy⟩ a len cap X Y S A B H M h w (hid fun hp => by
        obtain ⟨b, off, h1, h2, h3⟩ := ha hp
        exact ⟨b, off, h1, h2, fun i hi => ⟨(h3 i hi).1, (h3 i hi).2.1⟩⟩)

theorem own : ownKnob Try.prog.godebug = none := by kernel_rfl
set_option maxRecDepth 100000 in
theorem lifted (os : Os) (started : os.Started) (H : Type) (enc : TypeId × Value → H) :
    ReturnsInHanded {} Try.checked os 8 .any (Rows.motionRunsSpec.pre6 enc Try.prog Try.f8 Rows.motionRunsRow.domain false) (Rows.motionRunsSpec.post enc Try.prog Try.f8 false true false false) := by
  refine returnsInHanded_of_change (C := Try.checked) own started (by kernel_rfl) Try.func8
    (ChangeSpec.witness6 (enc := enc) (C := Try.checked) false ⟨#[], #[.agg #[.int .i64 0, .int .i64 0, .int .i64 0, .int .i64 0], .slice none 0 0, .agg #[.int .i64 0, .int .i64 0, .int .i64 0, .int .i64 0, .int .i64 0]], []⟩ 8 (by kernel_rfl) (by kernel_rfl) (by kernel_rfl) (by kernel_rfl)) ?_
  intro W base args ds gs before hval0 hW _ _
  have hval : ∀ (j : Nat) t v, Try.f8.params[j]? = some t → args[j]? = some v → Value.okWide Try.prog W .any base t v := hval0
  have hW' := hW
  obtain ⟨p, q, hA0, hV, rfl, hfz, hnd⟩ := hW
  have hA : DataW.TrodAll enc Try.prog W 0 (fun _ => true) true Try.f8.params.toList args.toList ds p := hA0
  rw [Try.params8] at hA hval
  obtain ⟨v0, vs0, d0, ds0, p0, q0, hargs, rfl, rfl, h0, r0⟩ := trodAll_cons hA
  obtain ⟨v1, vs1, d1, ds1, p1, q1, rfl, rfl, rfl, h1, r1⟩ := trodAll_cons r0
  obtain ⟨v2, vs2, d2, ds2, p2, q2, rfl, rfl, rfl, h2, r2⟩ := trodAll_cons r1
  obtain ⟨rfl, rfl, rfl⟩ := trodAll_nil r2
  obtain rfl : args = #[v0, v1, v2] := by cases args; simp_all
  obtain ⟨rfl, rfl⟩ := trodVars_none hV
  obtain ⟨a00, a01, a02, a03, rfl, w00, w01, w02, w03⟩ := open_mo Try.underlying25 (by kernel_rfl) rfl rfl rfl rfl (by kernel_rfl) Try.underlying23 (by kernel_rfl) Try.underlying3 rfl rfl (hval 0 25 v0 rfl rfl) h0
  obtain ⟨a1, len1, cap1, X1, Y1, rfl, q10, q11, q12⟩ := open_pts Try.underlying32 Try.underlying23 (by kernel_rfl) (by kernel_rfl) Try.underlying3 rfl rfl (hval 1 32 v1 rfl rfl) h1
  obtain ⟨a20, a21, a22, a23, a24, rfl, w20, w21, w22, w23, w24⟩ := open_ints5 Try.underlying27 (by kernel_rfl) (by kernel_rfl) Try.underlying3 rfl rfl rfl rfl rfl (hval 2 27 v2 rfl rfl) h2
  refine (walk a00 a01 a02 a03 w00 w01 w02 w03 a1 len1 cap1 X1 Y1 q10 q11 a20 a21 a22 a23 a24 w20 w21 w22 w23 w24 W q12).mono fun e W' ⟨he, hb⟩ => ?_
  subst he
  exact ⟨_, rfl, law_post (by kernel_rfl) (by kernel_rfl) rfl (show Try.f8.resultTypes = #[4] by kernel_rfl) Try.underlying4 hW' rfl rfl rfl hb⟩
theorem over : Rows.motionRunsRow.holds Try.pinned (OpenSpec.ofChange Rows.motionRunsSpec) :=
  OpenClaim.holds_of_wide 8 Try.f8 rfl rfl rfl rfl rfl rfl rfl ⟨rfl, rfl, rfl, rfl, rfl⟩ rfl rfl rfl rfl rfl (by kernel_rfl) Try.func8 (by kernel_rfl)
    (of_decide_eq_true (by kernel_rfl)) (by unfold Func.isWrapper; first | (rw [if_pos (by decide +kernel)]; kernel_rfl) | (rw [if_neg (by decide +kernel)]; exact ⟨rfl, rfl⟩))
    (fun os started H enc _ => lifted os started H enc)
/-- THE STATEMENT. -/
theorem proved : Rows.MotionRunsSaid := over
#print axioms proved
end Go.Proofs.Ythfpdlkeagoamaa.motionRuns
