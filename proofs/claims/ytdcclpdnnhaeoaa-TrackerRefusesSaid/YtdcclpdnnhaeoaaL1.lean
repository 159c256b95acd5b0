/- The law TrackerRefuses returns true for every input; its arguments read afterwards as before. No condition. -/
import Derived.Test.YtdcclpdnnhaeoaaL1w
import Derived.Test.YtdcclpdnnhaeoaaFrame4
import Derived.Test.YtdcclpdnnhaeoaaRows
namespace Go.Proofs.Ytdcclpdnnhaeoaa.trackerRefuses
open Go.ChangeShapes Go.WideShapes Go.ChangeAt Go.RowKit

set_option linter.unusedVariables false
theorem walk (n0 n1 n2 ah tl : Int) (a : Option Addr) (len cap : Nat) (X Y : Nat → Int) (S A B H M : Int) (w1 : (Lit.int .i64 S).wf = true) (w2 : (Lit.int .i64 A).wf = true) (w3 : (Lit.int .i64 B).wf = true) (w4 : (Lit.int .i64 H).wf = true) (w5 : (Lit.int .i64 M).wf = true) (w : World)
    (ha : 0 < len → ∃ b off, a = some ⟨b, off, none⟩ ∧ b < w.heap.size ∧ ∀ i, i < len → w.cell? ⟨b, off + i * 2, none⟩ = some (.int .i64 (X i)) ∧ w.cell? ⟨b, off + (i * 2 + 1), none⟩ = some (.int .i64 (Y i)) ∧ (Lit.int .i64 (X i)).wf = true ∧ (Lit.int .i64 (Y i)).wf = true) :
    Calls Try.prog 3 #[.agg #[.int .u8 n0, .int .u8 n1, .int .u8 n2, .int .i64 ah, .int .i64 tl, .slice a len cap], lim S A B H M] w fun e w' => e = .returned (.bool true) ∧ Below w.heap.size w w' := by
  rcases Nat.lt_or_ge 40 len with h | h
  · exact long n0 n1 n2 ah tl a len cap X Y S A B H M h w
  · have hw : Hid (Wants w a len X Y) := hid fun hp => by
      obtain ⟨b, off, h1, h2, h3⟩ := ha hp
      exact ⟨b, off, h1, h2, fun i hi => ⟨(h3 i hi).1, (h3 i hi).2.1⟩⟩
    by_cases hE : rnewE (pchk len X Y) ah tl = 0
    · have hp : pchk len X Y = 0 := by
        unfold rnewE at hE
        split at hE
        · assumption
        · exact hE
      have hr : rngOk ah tl = true := by
        unfold rnewE at hE
        rw [if_pos hp] at hE
        cases hr : rngOk ah tl with
        | true => rfl
        | false => rw [hr] at hE; cases hE
      obtain ⟨a1, a2, t1, t2⟩ := of_decide_eq_true hr
      cases hc : chk S A B H M with
      | true => exact good n0 n1 n2 ah tl a len cap X Y S A B H M h w hw hp a1 a2 t1 t2 hc
      | false => exact bad n0 n1 n2 ah tl a len cap X Y S A B H M h w hw hp a1 a2 t1 t2 hc
    · exact refused n0 n1 n2 ah tl a len cap X Y S A B H M h w hw hE

theorem own : ownKnob Try.prog.godebug = none := by kernel_rfl
set_option maxRecDepth 100000 in
theorem lifted (os : Os) (started : os.Started) (H : Type) (enc : TypeId × Value → H) :
    ReturnsInHanded {} Try.checked os 3 .any (Rows.trackerRefusesSpec.pre6 enc Try.prog Try.f3 Rows.trackerRefusesRow.domain false) (Rows.trackerRefusesSpec.post enc Try.prog Try.f3 false true false false) := by
  refine returnsInHanded_of_change (C := Try.checked) own started (by kernel_rfl) Try.func3
    (ChangeSpec.witness6 (enc := enc) (C := Try.checked) false ⟨#[], #[.agg #[.int .u8 0, .int .u8 0, .int .u8 0, .int .i64 0, .int .i64 0, .slice none 0 0], .agg #[.int .i64 0, .int .i64 0, .int .i64 0, .int .i64 0, .int .i64 0]], []⟩ 8 (by kernel_rfl) (by kernel_rfl) (by kernel_rfl) (by kernel_rfl)) ?_
  intro W base args ds gs before hval0 hW _ _
  have hval : ∀ (j : Nat) t v, Try.f3.params[j]? = some t → args[j]? = some v → Value.okWide Try.prog W .any base t v := hval0
  have hW' := hW
  obtain ⟨p, q, hA0, hV, rfl, hfz, hnd⟩ := hW
  have hA : DataW.TrodAll enc Try.prog W 0 (fun _ => true) true Try.f3.params.toList args.toList ds p := hA0
  rw [Try.params3] at hA hval
  obtain ⟨v0, vs0, d0, ds0, p0, q0, hargs, rfl, rfl, h0, r0⟩ := trodAll_cons hA
  obtain ⟨v1, vs1, d1, ds1, p1, q1, rfl, rfl, rfl, h1, r1⟩ := trodAll_cons r0
  obtain ⟨rfl, rfl, rfl⟩ := trodAll_nil r1
  obtain rfl : args = #[v0, v1] := by cases args; simp_all
  obtain ⟨rfl, rfl⟩ := trodVars_none hV
  obtain ⟨n00, n01, n02, ah0, tl0, a0, len0, cap0, X0, Y0, rfl, u00, u01, u02, u03, u04, q00, q01, q02⟩ := open_shape Try.underlying25 (by kernel_rfl) rfl rfl rfl rfl rfl rfl rfl rfl (by kernel_rfl) (by kernel_rfl) (by kernel_rfl) Try.underlying22 Try.underlying5 (by kernel_rfl) Try.underlying3 Try.underlying23 Try.underlying34 (by kernel_rfl) (by kernel_rfl) rfl rfl (hval 0 25 v0 rfl rfl) h0
  obtain ⟨a10, a11, a12, a13, a14, rfl, w10, w11, w12, w13, w14⟩ := open_ints5 Try.underlying27 (by kernel_rfl) (by kernel_rfl) Try.underlying3 rfl rfl rfl rfl rfl (hval 1 27 v1 rfl rfl) h1
  refine (walk n00 n01 n02 ah0 tl0 a0 len0 cap0 X0 Y0 a10 a11 a12 a13 a14 w10 w11 w12 w13 w14 W q02).mono fun e W' ⟨he, hb⟩ => ?_
  subst he
  exact ⟨_, rfl, law_post (by kernel_rfl) (by kernel_rfl) rfl (show Try.f3.resultTypes = #[4] by kernel_rfl) Try.underlying4 hW' rfl rfl rfl hb⟩
theorem over : Rows.trackerRefusesRow.holds Try.pinned (OpenSpec.ofChange Rows.trackerRefusesSpec) :=
  OpenClaim.holds_of_wide 3 Try.f3 rfl rfl rfl rfl rfl rfl rfl ⟨rfl, rfl, rfl, rfl, rfl⟩ rfl rfl rfl rfl rfl (by kernel_rfl) Try.func3 (by kernel_rfl)
    (of_decide_eq_true (by kernel_rfl)) (by unfold Func.isWrapper; first | (rw [if_pos (by decide +kernel)]; kernel_rfl) | (rw [if_neg (by decide +kernel)]; exact ⟨rfl, rfl⟩))
    (fun os started H enc _ => lifted os started H enc)
/-- THE STATEMENT. -/
theorem proved : Rows.TrackerRefusesSaid := over
#print axioms proved
end Go.Proofs.Ytdcclpdnnhaeoaa.trackerRefuses
