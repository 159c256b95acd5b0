/- The law TrackerReaches returns true for every input; its arguments read afterwards as before. No condition. -/
import Derived.Test.YtdcclpdnnhaeoaaL6w
import Derived.Test.YtdcclpdnnhaeoaaFrameB
import Derived.Test.YtdcclpdnnhaeoaaFrame2
import Derived.Test.YtdcclpdnnhaeoaaRows
namespace Go.Proofs.Ytdcclpdnnhaeoaa.trackerReaches
open Go.ChangeShapes Go.WideShapes Go.ChangeAt Go.RowKit

set_option linter.unusedVariables false
set_option linter.unusedSimpArgs false
theorem walk (a : Int) (wa : (Lit.int .u8 a).wf = true) (b : Int) (wb : (Lit.int .u8 b).wf = true) (c : Int) (wc : (Lit.int .u8 c).wf = true) (s : Int) (ws : (Lit.int .u8 s).wf = true) (ga : Option Addr) (len cap : Nat) (G : Nat → Int) (hl : len ≤ maxLen) (w : World)
    (ha : 0 < len → ∃ b off, ga = some ⟨b, off, none⟩ ∧ b < w.heap.size ∧ ∀ i, i < len → w.cell? ⟨b, off + i, none⟩ = some (.int .u8 (G i)) ∧ 0 ≤ G i ∧ G i ≤ 255) :
    Calls Try.prog 6 #[.agg #[.int .u8 a, .int .u8 b, .int .u8 c], .int .u8 s, .slice ga len cap] w fun e w' => e = .returned (.bool true) ∧ Below w.heap.size w w' := by
  have h1 := u8_range wa
  have h2 := u8_range wb
  have h3 := u8_range wc
  have h4 := u8_range ws
  rcases Nat.lt_or_ge 30 len with h | h
  · exact reaches_long a b c s ga len cap h hl w
  · exact reaches_walk a b c s h1.1 h1.2 h2.1 h2.2 h3.1 h3.2 h4.1 h4.2 ga len cap h G w (hid ha)

theorem own : ownKnob Try.prog.godebug = none := by kernel_rfl
set_option maxRecDepth 100000 in
theorem lifted (os : Os) (started : os.Started) (H : Type) (enc : TypeId × Value → H) :
    ReturnsInHanded {} Try.checked os 6 .any (Rows.trackerReachesSpec.pre6 enc Try.prog Try.f6 Rows.trackerReachesRow.domain false) (Rows.trackerReachesSpec.post enc Try.prog Try.f6 false true false false) := by
  refine returnsInHanded_of_change (C := Try.checked) own started (by kernel_rfl) Try.func6
    (ChangeSpec.witness6 (enc := enc) (C := Try.checked) false ⟨#[], #[.agg #[.int .u8 0, .int .u8 0, .int .u8 0], .int .u8 0, .slice none 0 0], []⟩ 8 (by kernel_rfl) (by kernel_rfl) (by kernel_rfl) (by kernel_rfl)) ?_
  intro W base args ds gs before hval0 hW _ _
  have hval : ∀ (j : Nat) t v, Try.f6.params[j]? = some t → args[j]? = some v → Value.okWide Try.prog W .any base t v := hval0
  have hW' := hW
  obtain ⟨p, q, hA0, hV, rfl, hfz, hnd⟩ := hW
  have hA : DataW.TrodAll enc Try.prog W 0 (fun _ => true) true Try.f6.params.toList args.toList ds p := hA0
  rw [Try.params6] at hA hval
  obtain ⟨v0, vs0, d0, ds0, p0, q0, hargs, rfl, rfl, h0, r0⟩ := trodAll_cons hA
  obtain ⟨v1, vs1, d1, ds1, p1, q1, rfl, rfl, rfl, h1, r1⟩ := trodAll_cons r0
  obtain ⟨v2, vs2, d2, ds2, p2, q2, rfl, rfl, rfl, h2, r2⟩ := trodAll_cons r1
  obtain ⟨rfl, rfl, rfl⟩ := trodAll_nil r2
  obtain rfl : args = #[v0, v1, v2] := by cases args; simp_all
  obtain ⟨rfl, rfl⟩ := trodVars_none hV
  obtain ⟨a00, a01, a02, rfl, w00, w01, w02⟩ := open_arr3 Try.underlying22 (by kernel_rfl) Try.underlying5 (by kernel_rfl) (hval 0 22 v0 rfl rfl) h0
  obtain ⟨a1, rfl, rfl, rfl, w1⟩ := open_int Try.underlying5 (hval 1 5 v1 rfl rfl) h1
  obtain ⟨a2, len2, cap2, G2, rfl, q20, q21⟩ := open_u8s Try.underlying58 (by kernel_rfl) Try.underlying5 (hval 2 58 v2 rfl rfl) h2
  refine (walk a00 w00 a01 w01 a02 w02 a1 w1 a2 len2 cap2 G2 q20 W q21).mono fun e W' ⟨he, hb⟩ => ?_
  subst he
  exact ⟨_, rfl, law_post (by kernel_rfl) (by kernel_rfl) rfl (show Try.f6.resultTypes = #[4] by kernel_rfl) Try.underlying4 hW' rfl rfl rfl hb⟩
theorem over : Rows.trackerReachesRow.holds Try.pinned (OpenSpec.ofChange Rows.trackerReachesSpec) :=
  OpenClaim.holds_of_wide 6 Try.f6 rfl rfl rfl rfl rfl rfl rfl ⟨rfl, rfl, rfl, rfl, rfl⟩ rfl rfl rfl rfl rfl (by kernel_rfl) Try.func6 (by kernel_rfl)
    (of_decide_eq_true (by kernel_rfl)) (by unfold Func.isWrapper; first | (rw [if_pos (by decide +kernel)]; kernel_rfl) | (rw [if_neg (by decide +kernel)]; exact ⟨rfl, rfl⟩))
    (fun os started H enc _ => lifted os started H enc)
/-- THE STATEMENT. -/
theorem proved : Rows.TrackerReachesSaid := over
#print axioms proved
end Go.Proofs.Ytdcclpdnnhaeoaa.trackerReaches
