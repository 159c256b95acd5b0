/- The law TrackerPlays returns true for every input; its arguments read afterwards as before. No condition. -/
import Derived.Test.YtdcclpdnnhaeoaaL5v
import Derived.Test.YtdcclpdnnhaeoaaFrame4
import Derived.Test.YtdcclpdnnhaeoaaFrameS
import Derived.Test.YtdcclpdnnhaeoaaRows
namespace Go.Proofs.Ytdcclpdnnhaeoaa.trackerPlays
open Go.ChangeShapes Go.WideShapes Go.ChangeAt Go.RowKit

set_option linter.unusedVariables false
set_option linter.unusedSimpArgs false
theorem walk (n0 n1 n2 ah tl : Int) (a : Option Addr) (len cap : Nat) (X Y : Nat → Int) (sa : Option Addr) (slen scap : Nat) (F : Nat → Stp) (w : World)
    (u0 : (Lit.int .u8 n0).wf = true) (u1 : (Lit.int .u8 n1).wf = true) (u2 : (Lit.int .u8 n2).wf = true) (hl : len ≤ maxLen)
    (ha : 0 < len → ∃ b off, a = some ⟨b, off, none⟩ ∧ b < w.heap.size ∧ ∀ i, i < len → w.cell? ⟨b, off + i * 2, none⟩ = some (.int .i64 (X i)) ∧ w.cell? ⟨b, off + (i * 2 + 1), none⟩ = some (.int .i64 (Y i)) ∧ (Lit.int .i64 (X i)).wf = true ∧ (Lit.int .i64 (Y i)).wf = true)
    (hsl : slen ≤ maxLen) (hs : 0 < slen → ∃ b off, sa = some ⟨b, off, none⟩ ∧ b < w.heap.size ∧ ∀ i, i < slen → StpAt w ⟨b, off + i * 4, none⟩ (F i)) :
    Calls Try.prog 5 #[.agg #[.int .u8 n0, .int .u8 n1, .int .u8 n2, .int .i64 ah, .int .i64 tl, .slice a len cap], .slice sa slen scap] w fun e w' => e = .returned (.bool true) ∧ Below w.heap.size w w' := by
  have r0 := u8_range u0
  have r1 := u8_range u1
  have r2 := u8_range u2
  rcases Nat.lt_or_ge 40 slen with hA | hA
  · exact plays_long1 n0 n1 n2 ah tl a len cap X Y sa slen scap F hsl hA w
  · rcases Nat.lt_or_ge 40 len with hB | hB
    · exact plays_long2 n0 n1 n2 ah tl a len cap X Y sa slen scap F hl hA hB w
    · have hw : Hid (Wants w a len X Y) := hid fun hp => by
        obtain ⟨b, off, h1, h2, h3⟩ := ha hp
        exact ⟨b, off, h1, h2, fun i hi => ⟨(h3 i hi).1, (h3 i hi).2.1⟩⟩
      by_cases hE : rnewE (pchk len X Y) ah tl = 0
      · have hp : pchk len X Y = 0 := by
          unfold rnewE at hE
          split at hE
          · assumption
          · exact hE
        have hr : rngOk ah tl = true := by
          unfold rnewE at hE
          rw [if_pos hp] at hE
          cases hr : rngOk ah tl with
          | true => rfl
          | false => rw [hr] at hE; cases hE
        obtain ⟨a1, a2, t1, t2⟩ := of_decide_eq_true hr
        exact plays_walk n0 n1 n2 ah tl a len cap X Y sa slen scap F hA hB r0.1 r0.2 r1.1 r1.2 r2.1 r2.2 w hw (hid hs) hp a1 a2 t1 t2
      · exact plays_err n0 n1 n2 ah tl a len cap X Y sa slen scap F hA hB r0.1 r0.2 r1.1 r1.2 r2.1 r2.2 w hw hE

theorem own : ownKnob Try.prog.godebug = none := by kernel_rfl
set_option maxRecDepth 100000 in
theorem lifted (os : Os) (started : os.Started) (H : Type) (enc : TypeId × Value → H) :
    ReturnsInHanded {} Try.checked os 5 .any (Rows.trackerPlaysSpec.pre6 enc Try.prog Try.f5 Rows.trackerPlaysRow.domain false) (Rows.trackerPlaysSpec.post enc Try.prog Try.f5 false true false false) := by
  refine returnsInHanded_of_change (C := Try.checked) own started (by kernel_rfl) Try.func5
    (ChangeSpec.witness6 (enc := enc) (C := Try.checked) false ⟨#[], #[.agg #[.int .u8 0, .int .u8 0, .int .u8 0, .int .i64 0, .int .i64 0, .slice none 0 0], .slice none 0 0], []⟩ 8 (by kernel_rfl) (by kernel_rfl) (by kernel_rfl) (by kernel_rfl)) ?_
  intro W base args ds gs before hval0 hW _ _
  have hval : ∀ (j : Nat) t v, Try.f5.params[j]? = some t → args[j]? = some v → Value.okWide Try.prog W .any base t v := hval0
  have hW' := hW
  obtain ⟨p, q, hA0, hV, rfl, hfz, hnd⟩ := hW
  have hA : DataW.TrodAll enc Try.prog W 0 (fun _ => true) true Try.f5.params.toList args.toList ds p := hA0
  rw [Try.params5] at hA hval
  obtain ⟨v0, vs0, d0, ds0, p0, q0, hargs, rfl, rfl, h0, r0⟩ := trodAll_cons hA
  obtain ⟨v1, vs1, d1, ds1, p1, q1, rfl, rfl, rfl, h1, r1⟩ := trodAll_cons r0
  obtain ⟨rfl, rfl, rfl⟩ := trodAll_nil r1
  obtain rfl : args = #[v0, v1] := by cases args; simp_all
  obtain ⟨rfl, rfl⟩ := trodVars_none hV
  obtain ⟨n00, n01, n02, ah0, tl0, a0, len0, cap0, X0, Y0, rfl, u00, u01, u02, u03, u04, q00, q01, q02⟩ := open_shape Try.underlying25 (by kernel_rfl) rfl rfl rfl rfl rfl rfl rfl rfl (by kernel_rfl) (by kernel_rfl) (by kernel_rfl) Try.underlying22 Try.underlying5 (by kernel_rfl) Try.underlying3 Try.underlying23 Try.underlying34 (by kernel_rfl) (by kernel_rfl) rfl rfl (hval 0 25 v0 rfl rfl) h0
  obtain ⟨a1, len1, cap1, F1, rfl, q10, q11⟩ := open_steps Try.underlying44 Try.underlying48 (by kernel_rfl) rfl rfl rfl rfl rfl rfl rfl rfl (by kernel_rfl) (by kernel_rfl) (by kernel_rfl) Try.underlying5 Try.underlying46 Try.underlying3 Try.underlying23 Try.underlying34 (by kernel_rfl) (by kernel_rfl) rfl rfl (hval 1 44 v1 rfl rfl) h1
  refine (walk n00 n01 n02 ah0 tl0 a0 len0 cap0 X0 Y0 a1 len1 cap1 F1 W u00 u01 u02 q00 q02 q10 q11).mono fun e W' ⟨he, hb⟩ => ?_
  subst he
  exact ⟨_, rfl, law_post (by kernel_rfl) (by kernel_rfl) rfl (show Try.f5.resultTypes = #[4] by kernel_rfl) Try.underlying4 hW' rfl rfl rfl hb⟩
theorem over : Rows.trackerPlaysRow.holds Try.pinned (OpenSpec.ofChange Rows.trackerPlaysSpec) :=
  OpenClaim.holds_of_wide 5 Try.f5 rfl rfl rfl rfl rfl rfl rfl ⟨rfl, rfl, rfl, rfl, rfl⟩ rfl rfl rfl rfl rfl (by kernel_rfl) Try.func5 (by kernel_rfl)
    (of_decide_eq_true (by kernel_rfl)) (by unfold Func.isWrapper; first | (rw [if_pos (by decide +kernel)]; kernel_rfl) | (rw [if_neg (by decide +kernel)]; exact ⟨rfl, rfl⟩))
    (fun os started H enc _ => lifted os started H enc)
/-- THE STATEMENT. -/
theorem proved : Rows.TrackerPlaysSaid := over
#print axioms proved
end Go.Proofs.Ytdcclpdnnhaeoaa.trackerPlays
