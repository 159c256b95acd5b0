/- The law TopSafe returns true for every input; its arguments read afterwards as before. No condition. -/
import Derived.Test.YtfcianhmfpenhaaXo
import Derived.Test.YtfcianhmfpenhaaFrame
import Derived.Test.YtfcianhmfpenhaaFrame3
import Derived.Test.YtfcianhmfpenhaaFrame5
import Derived.Test.YtfcianhmfpenhaaFrameW
namespace Go.Proofs.Ytfcianhmfpenhaa.topSafe
open Go.ChangeShapes Go.WideShapes Go.ChangeAt Go.RowKit

theorem wants_of {w : World} {a : Option Addr} {len : Nat} {X Y : Nat → Int} (h : 0 < len → ∃ b off, a = some ⟨b, off, none⟩ ∧ b < w.heap.size ∧ ∀ i, i < len → w.cell? ⟨b, off + i * 2, none⟩ = some (.int .i64 (X i)) ∧ w.cell? ⟨b, off + (i * 2 + 1), none⟩ = some (.int .i64 (Y i)) ∧ (Lit.int .i64 (X i)).wf = true ∧ (Lit.int .i64 (Y i)).wf = true) : Wants w a len X Y := fun hp => by
  obtain ⟨b, off, e, hb, hc⟩ := h hp
  exact ⟨b, off, e, hb, fun i hi => ⟨(hc i hi).1, by rw [Nat.add_assoc]; exact (hc i hi).2.1⟩⟩
theorem walk (a0 : Int) (w0 : (Lit.int .u16 a0).wf = true) (a1 : Int) (w1 : (Lit.int .u16 a1).wf = true) (a2 : Int) (w2 : (Lit.int .u16 a2).wf = true) (a3 : Int) (w3 : (Lit.int .u16 a3).wf = true) (a4 : Int) (w4 : (Lit.int .u16 a4).wf = true) (ga : Option Addr) (len cap : Nat) (X Y : Nat → Int) (hl : len ≤ maxLen) (gb : Option Addr) (lw cb : Nat) (F : Nat → Wlk) (hlw : lw ≤ maxLen) (w : World)
    (ha : 0 < len → ∃ b off, ga = some ⟨b, off, none⟩ ∧ b < w.heap.size ∧ ∀ i, i < len → w.cell? ⟨b, off + i * 2, none⟩ = some (.int .i64 (X i)) ∧ w.cell? ⟨b, off + (i * 2 + 1), none⟩ = some (.int .i64 (Y i)) ∧ (Lit.int .i64 (X i)).wf = true ∧ (Lit.int .i64 (Y i)).wf = true)
    (hb : 0 < lw → ∃ b off, gb = some ⟨b, off, none⟩ ∧ b < w.heap.size ∧ ∀ i, i < lw → WlkAt w ⟨b, off + i * 3, none⟩ (F i)) :
    Calls Try.prog 3 #[.agg #[.int .u16 a0, .int .u16 a1, .int .u16 a2, .int .u16 a3, .int .u16 a4], .slice ga len cap, .slice gb lw cb] w fun e w' => e = .returned (.bool true) ∧ Below w.heap.size w w' := by
  have h0 := u16_range w0
  have h1 := u16_range w1
  have h2 := u16_range w2
  have h3 := u16_range w3
  have h4 := u16_range w4
  rcases Nat.lt_or_ge 3 lw with h | h
  · exact safe_more _ _ _ _ _ h0.1 h0.2 h1.1 h1.2 h2.1 h2.2 h3.1 h3.2 h4.1 h4.2 ga len cap gb lw cb hl hlw h w
  · rcases Nat.lt_or_ge 60 len with h' | h'
    · exact safe_long _ _ _ _ _ h0.1 h0.2 h1.1 h1.2 h2.1 h2.2 h3.1 h3.2 h4.1 h4.2 ga len cap gb lw cb hl h h' w
    · exact safe_walk _ _ _ _ _ h0.1 h0.2 h1.1 h1.2 h2.1 h2.2 h3.1 h3.2 h4.1 h4.2 ga len cap gb lw cb X Y _ _ _ _ _ _ _ h' h w (hid (wants_of ha)) (hid (wks_of hb))

theorem own : ownKnob Try.prog.godebug = none := by kernel_rfl
set_option maxRecDepth 100000 in
theorem lifted (os : Os) (started : os.Started) (H : Type) (enc : TypeId × Value → H) :
    ReturnsInHanded {} Try.checked os 3 .any (Rows.topSafeSpec.pre6 enc Try.prog Try.f3 Rows.topSafeRow.domain false) (Rows.topSafeSpec.post enc Try.prog Try.f3 false true false false) := by
  refine returnsInHanded_of_change (C := Try.checked) own started (by kernel_rfl) Try.func3
    (ChangeSpec.witness6 (enc := enc) (C := Try.checked) false ⟨#[], #[.agg #[.int .u16 0, .int .u16 0, .int .u16 0, .int .u16 0, .int .u16 0], .slice none 0 0, .slice none 0 0], []⟩ 8 (by kernel_rfl) (by kernel_rfl) (by kernel_rfl) (by kernel_rfl)) ?_
  intro W base args ds gs before hval0 hW _ _
  have hval : ∀ (j : Nat) t v, Try.f3.params[j]? = some t → args[j]? = some v → Value.okWide Try.prog W .any base t v := hval0
  have hW' := hW
  obtain ⟨p, q, hA0, hV, rfl, hfz, hnd⟩ := hW
  have hA : DataW.TrodAll enc Try.prog W 0 (fun _ => true) true Try.f3.params.toList args.toList ds p := hA0
  rw [Try.params3] at hA hval
  obtain ⟨v0, vs0, d0, ds0, p0, q0, hargs, rfl, rfl, h0, r0⟩ := trodAll_cons hA
  obtain ⟨v1, vs1, d1, ds1, p1, q1, rfl, rfl, rfl, h1, r1⟩ := trodAll_cons r0
  obtain ⟨v2, vs2, d2, ds2, p2, q2, rfl, rfl, rfl, h2, r2⟩ := trodAll_cons r1
  obtain ⟨rfl, rfl, rfl⟩ := trodAll_nil r2
  obtain rfl : args = #[v0, v1, v2] := by cases args; simp_all
  obtain ⟨rfl, rfl⟩ := trodVars_none hV
  obtain ⟨a00, a01, a02, a03, a04, rfl, w00, w01, w02, w03, w04⟩ := open_arr5 Try.underlying23 (by kernel_rfl) Try.underlying22 (by kernel_rfl) (hval 0 23 v0 rfl rfl) h0
  obtain ⟨a1, len1, cap1, X1, Y1, rfl, q10, q11, q12⟩ := open_pts Try.underlying24 Try.underlying35 (by kernel_rfl) (by kernel_rfl) Try.underlying3 rfl rfl (hval 1 24 v1 rfl rfl) h1
  obtain ⟨a2, len2, cap2, F2, rfl, q20, q22⟩ := open_walks (ti := 3) Try.underlying25 Try.underlying40 (by kernel_rfl) rfl rfl rfl rfl (by kernel_rfl) Try.underlying3 Try.underlying24 Try.underlying35 (by kernel_rfl) (by kernel_rfl) rfl rfl (hval 2 25 v2 rfl rfl) h2
  refine (walk a00 w00 a01 w01 a02 w02 a03 w03 a04 w04 a1 len1 cap1 X1 Y1 q10 a2 len2 cap2 F2 q20 W q12 q22).mono fun e W' ⟨he, hb⟩ => ?_
  subst he
  exact ⟨_, rfl, law_post (by kernel_rfl) (by kernel_rfl) rfl (show Try.f3.resultTypes = #[4] by kernel_rfl) Try.underlying4 hW' rfl rfl rfl hb⟩
theorem over : Rows.topSafeRow.holds Try.pinned (OpenSpec.ofChange Rows.topSafeSpec) :=
  OpenClaim.holds_of_wide 3 Try.f3 rfl rfl rfl rfl rfl rfl rfl ⟨rfl, rfl, rfl, rfl, rfl⟩ rfl rfl rfl rfl rfl (by kernel_rfl) Try.func3 (by kernel_rfl)
    (of_decide_eq_true (by kernel_rfl)) (by unfold Func.isWrapper; first | (rw [if_pos (by decide +kernel)]; kernel_rfl) | (rw [if_neg (by decide +kernel)]; exact ⟨rfl, rfl⟩))
    (fun os started H enc _ => lifted os started H enc)
/-- THE STATEMENT. -/
theorem proved : Rows.TopSafeSaid := over
#print axioms proved
end Go.Proofs.Ytfcianhmfpenhaa.topSafe
