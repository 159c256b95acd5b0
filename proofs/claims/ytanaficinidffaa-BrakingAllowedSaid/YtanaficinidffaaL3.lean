/- The law BrakingAllowed returns true for every input; its arguments read afterwards as before. No condition. -/
import Derived.Test.YtanaficinidffaaWd
import Derived.Test.YtanaficinidffaaFrame
import Derived.Test.YtanaficinidffaaRows
namespace Go.Proofs.Ytanaficinidffaa.brakingAllowed
open Go.ChangeShapes Go.WideShapes Go.ChangeAt Go.RowKit

set_option linter.unusedVariables false

theorem not_safe (g s a b h m v : Int) (e0 : safeF 0 g s a b h m = false) (hv : 0 ≤ v) : safeF v g s a b h m = false := by
  cases e : safeF v g s a b h m
  · rfl
  · rw [safe_down e (Int.le_refl 0) hv] at e0; cases e0
set_option maxHeartbeats 2000000 in
theorem walk_no (g s a b h m v : Int) (e0 : safeF 0 g s a b h m = false) (w : World) : Calls Try.prog 8 #[.int .i64 g, lim s a b h m, .int .i64 v] w fun e w' => e = .returned (.bool true) ∧ Below w.heap.size w w' := by
  have er : allowF g s a b h m = -1 := allow_none e0
  by_cases h1 : v < 0
  · go_enter Try.func8, Try.ntmps8
    go_wp2_with (first
    | (go_at_call 22; refine (allow_any _ _ _ _ _ _ _).mono ?_; rintro e w1 ⟨rfl, hb⟩; obtain ⟨hc, hf⟩ := bcell hb)
    | (go_at_call 10; refine (safe_any _ _ _ _ _ _ _ _).mono ?_; rintro e w2 ⟨rfl, hb2⟩; replace hb := below_then hb hb2; clear hb2; obtain ⟨hc, hf⟩ := bcell hb)
    | (go_at_call 12; refine (awake_any _).mono ?_; rintro e w2 ⟨rfl, hb2⟩; replace hb := below_then hb hb2; clear hb2))
    go_ret
    exact ⟨rfl, below_box hb⟩
  by_cases h2 : s < v
  · go_enter Try.func8, Try.ntmps8
    go_wp2_with (first
    | (go_at_call 22; refine (allow_any _ _ _ _ _ _ _).mono ?_; rintro e w1 ⟨rfl, hb⟩; obtain ⟨hc, hf⟩ := bcell hb)
    | (go_at_call 10; refine (safe_any _ _ _ _ _ _ _ _).mono ?_; rintro e w2 ⟨rfl, hb2⟩; replace hb := below_then hb hb2; clear hb2; obtain ⟨hc, hf⟩ := bcell hb)
    | (go_at_call 12; refine (awake_any _).mono ?_; rintro e w2 ⟨rfl, hb2⟩; replace hb := below_then hb hb2; clear hb2))
    go_ret
    exact ⟨rfl, below_box hb⟩
  have ev := not_safe g s a b h m v e0 (by omega)
  go_enter Try.func8, Try.ntmps8
  go_wp2_with (first
  | (go_at_call 22; refine (allow_any _ _ _ _ _ _ _).mono ?_; rintro e w1 ⟨rfl, hb⟩; obtain ⟨hc, hf⟩ := bcell hb)
  | (go_at_call 10; refine (safe_any _ _ _ _ _ _ _ _).mono ?_; rintro e w2 ⟨rfl, hb2⟩; replace hb := below_then hb hb2; clear hb2; obtain ⟨hc, hf⟩ := bcell hb)
  | (go_at_call 12; refine (awake_any _).mono ?_; rintro e w2 ⟨rfl, hb2⟩; replace hb := below_then hb hb2; clear hb2))
  go_ret
  exact ⟨rfl, below_box hb⟩

set_option maxHeartbeats 2000000 in
theorem walk_yes (g s a b h m v r : Int) (er : allowF g s a b h m = r) (h0 : 0 ≤ r) (h1 : r ≤ s) (hs : s ≤ 4096) (er1 : safeF r g s a b h m = true) (er2 : r < s → safeF (r + 1) g s a b h m = false) (ev1 : 0 ≤ v → v ≤ r → safeF v g s a b h m = true) (ev2 : r < v → v ≤ s → safeF v g s a b h m = false) (w : World) : Calls Try.prog 8 #[.int .i64 g, lim s a b h m, .int .i64 v] w fun e w' => e = .returned (.bool true) ∧ Below w.heap.size w w' := by
  by_cases hr : r < s
  · have er3 := er2 hr
    clear er2
    by_cases h2 : v < 0
    · clear ev1 ev2
      go_enter Try.func8, Try.ntmps8
      go_wp2_with (first
      | (go_at_call 22; refine (allow_any _ _ _ _ _ _ _).mono ?_; rintro e w1 ⟨rfl, hb⟩; obtain ⟨hc, hf⟩ := bcell hb)
      | (go_at_call 10; refine (safe_any _ _ _ _ _ _ _ _).mono ?_; rintro e w2 ⟨rfl, hb2⟩; replace hb := below_then hb hb2; clear hb2; obtain ⟨hc, hf⟩ := bcell hb)
      | (go_at_call 12; refine (awake_any _).mono ?_; rintro e w2 ⟨rfl, hb2⟩; replace hb := below_then hb hb2; clear hb2))
      go_ret
      exact ⟨rfl, below_box hb⟩
    by_cases h3 : v ≤ r
    · have ev := ev1 (by omega) h3
      clear ev1 ev2
      go_enter Try.func8, Try.ntmps8
      go_wp2_with (first
      | (go_at_call 22; refine (allow_any _ _ _ _ _ _ _).mono ?_; rintro e w1 ⟨rfl, hb⟩; obtain ⟨hc, hf⟩ := bcell hb)
      | (go_at_call 10; refine (safe_any _ _ _ _ _ _ _ _).mono ?_; rintro e w2 ⟨rfl, hb2⟩; replace hb := below_then hb hb2; clear hb2; obtain ⟨hc, hf⟩ := bcell hb)
      | (go_at_call 12; refine (awake_any _).mono ?_; rintro e w2 ⟨rfl, hb2⟩; replace hb := below_then hb hb2; clear hb2))
      go_ret
      exact ⟨rfl, below_box hb⟩
    by_cases h4 : v ≤ s
    · have ev := ev2 (by omega) h4
      clear ev1 ev2
      go_enter Try.func8, Try.ntmps8
      go_wp2_with (first
      | (go_at_call 22; refine (allow_any _ _ _ _ _ _ _).mono ?_; rintro e w1 ⟨rfl, hb⟩; obtain ⟨hc, hf⟩ := bcell hb)
      | (go_at_call 10; refine (safe_any _ _ _ _ _ _ _ _).mono ?_; rintro e w2 ⟨rfl, hb2⟩; replace hb := below_then hb hb2; clear hb2; obtain ⟨hc, hf⟩ := bcell hb)
      | (go_at_call 12; refine (awake_any _).mono ?_; rintro e w2 ⟨rfl, hb2⟩; replace hb := below_then hb hb2; clear hb2))
      go_ret
      exact ⟨rfl, below_box hb⟩
    clear ev1 ev2
    go_enter Try.func8, Try.ntmps8
    go_wp2_with (first
    | (go_at_call 22; refine (allow_any _ _ _ _ _ _ _).mono ?_; rintro e w1 ⟨rfl, hb⟩; obtain ⟨hc, hf⟩ := bcell hb)
    | (go_at_call 10; refine (safe_any _ _ _ _ _ _ _ _).mono ?_; rintro e w2 ⟨rfl, hb2⟩; replace hb := below_then hb hb2; clear hb2; obtain ⟨hc, hf⟩ := bcell hb)
    | (go_at_call 12; refine (awake_any _).mono ?_; rintro e w2 ⟨rfl, hb2⟩; replace hb := below_then hb hb2; clear hb2))
    go_ret
    exact ⟨rfl, below_box hb⟩
  · obtain rfl : r = s := by omega
    clear er2
    by_cases h2 : v < 0
    · clear ev1 ev2
      go_enter Try.func8, Try.ntmps8
      go_wp2_with (first
      | (go_at_call 22; refine (allow_any _ _ _ _ _ _ _).mono ?_; rintro e w1 ⟨rfl, hb⟩; obtain ⟨hc, hf⟩ := bcell hb)
      | (go_at_call 10; refine (safe_any _ _ _ _ _ _ _ _).mono ?_; rintro e w2 ⟨rfl, hb2⟩; replace hb := below_then hb hb2; clear hb2; obtain ⟨hc, hf⟩ := bcell hb)
      | (go_at_call 12; refine (awake_any _).mono ?_; rintro e w2 ⟨rfl, hb2⟩; replace hb := below_then hb hb2; clear hb2))
      go_ret
      exact ⟨rfl, below_box hb⟩
    by_cases h3 : v ≤ r
    · have ev := ev1 (by omega) h3
      clear ev1 ev2
      go_enter Try.func8, Try.ntmps8
      go_wp2_with (first
      | (go_at_call 22; refine (allow_any _ _ _ _ _ _ _).mono ?_; rintro e w1 ⟨rfl, hb⟩; obtain ⟨hc, hf⟩ := bcell hb)
      | (go_at_call 10; refine (safe_any _ _ _ _ _ _ _ _).mono ?_; rintro e w2 ⟨rfl, hb2⟩; replace hb := below_then hb hb2; clear hb2; obtain ⟨hc, hf⟩ := bcell hb)
      | (go_at_call 12; refine (awake_any _).mono ?_; rintro e w2 ⟨rfl, hb2⟩; replace hb := below_then hb hb2; clear hb2))
      go_ret
      exact ⟨rfl, below_box hb⟩
    clear ev1 ev2
    go_enter Try.func8, Try.ntmps8
    go_wp2_with (first
    | (go_at_call 22; refine (allow_any _ _ _ _ _ _ _).mono ?_; rintro e w1 ⟨rfl, hb⟩; obtain ⟨hc, hf⟩ := bcell hb)
    | (go_at_call 10; refine (safe_any _ _ _ _ _ _ _ _).mono ?_; rintro e w2 ⟨rfl, hb2⟩; replace hb := below_then hb hb2; clear hb2; obtain ⟨hc, hf⟩ := bcell hb)
    | (go_at_call 12; refine (awake_any _).mono ?_; rintro e w2 ⟨rfl, hb2⟩; replace hb := below_then hb hb2; clear hb2))
    go_ret
    exact ⟨rfl, below_box hb⟩

theorem walk (a0 : Int) (w0 : (Lit.int .i64 a0).wf = true) (a10 a11 a12 a13 a14 : Int) (w10 : (Lit.int .i64 a10).wf = true) (w11 : (Lit.int .i64 a11).wf = true) (w12 : (Lit.int .i64 a12).wf = true) (w13 : (Lit.int .i64 a13).wf = true) (w14 : (Lit.int .i64 a14).wf = true) (a2 : Int) (w2 : (Lit.int .i64 a2).wf = true) (w : World) : Calls Try.prog 8 #[.int .i64 a0, lim a10 a11 a12 a13 a14, .int .i64 a2] w fun e w' => e = .returned (.bool true) ∧ Below w.heap.size w w' := by
  cases e0 : safeF 0 a0 a10 a11 a12 a13 a14
  · exact walk_no _ _ _ _ _ _ _ e0 w
  · obtain ⟨h1, h2, h3, h4⟩ := allow_spec e0
    have hv := vld_iff.1 (safe_iff.1 e0).2.1
    exact walk_yes _ _ _ _ _ _ _ _ rfl h1 h2 hv.1.2 h3 (fun h => h4 _ (by omega) (by omega)) (fun x y => safe_down h3 x y) (fun x y => h4 _ x y) w

theorem own : ownKnob Try.prog.godebug = none := by kernel_rfl
set_option maxRecDepth 100000 in
theorem lifted (os : Os) (started : os.Started) (H : Type) (enc : TypeId × Value → H) :
    ReturnsInHanded {} Try.checked os 8 .any (Rows.brakingAllowedSpec.pre6 enc Try.prog Try.f8 Rows.brakingAllowedRow.domain false) (Rows.brakingAllowedSpec.post enc Try.prog Try.f8 false true false false) := by
  refine returnsInHanded_of_change (C := Try.checked) own started (by kernel_rfl) Try.func8
    (ChangeSpec.witness6 (enc := enc) (C := Try.checked) false ⟨#[], #[.int .i64 0, .agg #[.int .i64 0, .int .i64 0, .int .i64 0, .int .i64 0, .int .i64 0], .int .i64 0], []⟩ 8 (by kernel_rfl) (by kernel_rfl) (by kernel_rfl) (by kernel_rfl)) ?_
  intro W base args ds gs before hval0 hW _ _
  have hval : ∀ (j : Nat) t v, Try.f8.params[j]? = some t → args[j]? = some v → Value.okWide Try.prog W .any base t v := hval0
  have hW' := hW
  obtain ⟨p, q, hA0, hV, rfl, hfz, hnd⟩ := hW
  have hA : DataW.TrodAll enc Try.prog W 0 (fun _ => true) true Try.f8.params.toList args.toList ds p := hA0
  rw [Try.params8] at hA hval
  obtain ⟨v0, vs0, d0, ds0, p0, q0, hargs, rfl, rfl, h0, r0⟩ := trodAll_cons hA
  obtain ⟨v1, vs1, d1, ds1, p1, q1, rfl, rfl, rfl, h1, r1⟩ := trodAll_cons r0
  obtain ⟨v2, vs2, d2, ds2, p2, q2, rfl, rfl, rfl, h2, r2⟩ := trodAll_cons r1
  obtain ⟨rfl, rfl, rfl⟩ := trodAll_nil r2
  obtain rfl : args = #[v0, v1, v2] := by cases args; simp_all
  obtain ⟨rfl, rfl⟩ := trodVars_none hV
  obtain ⟨a0, rfl, rfl, rfl, w0⟩ := open_int Try.underlying3 (hval 0 3 v0 rfl rfl) h0
  obtain ⟨a10, a11, a12, a13, a14, rfl, w10, w11, w12, w13, w14⟩ := open_ints5 Try.underlying23 (by kernel_rfl) (by kernel_rfl) Try.underlying3 rfl rfl rfl rfl rfl (hval 1 23 v1 rfl rfl) h1
  obtain ⟨a2, rfl, rfl, rfl, w2⟩ := open_int Try.underlying3 (hval 2 3 v2 rfl rfl) h2
  refine (walk a0 w0 a10 a11 a12 a13 a14 w10 w11 w12 w13 w14 a2 w2 W).mono fun e W' ⟨he, hb⟩ => ?_
  subst he
  exact ⟨_, rfl, law_post (by kernel_rfl) (by kernel_rfl) rfl (show Try.f8.resultTypes = #[4] by kernel_rfl) Try.underlying4 hW' rfl rfl rfl hb⟩
theorem over : Rows.brakingAllowedRow.holds Try.pinned (OpenSpec.ofChange Rows.brakingAllowedSpec) :=
  OpenClaim.holds_of_wide 8 Try.f8 rfl rfl rfl rfl rfl rfl rfl ⟨rfl, rfl, rfl, rfl, rfl⟩ rfl rfl rfl rfl rfl (by kernel_rfl) Try.func8 (by kernel_rfl)
    (of_decide_eq_true (by kernel_rfl)) (by unfold Func.isWrapper; first | (rw [if_pos (by decide +kernel)]; kernel_rfl) | (rw [if_neg (by decide +kernel)]; exact ⟨rfl, rfl⟩))
    (fun os started H enc _ => lifted os started H enc)
/-- THE STATEMENT. -/
theorem proved : Rows.BrakingAllowedSaid := over
#print axioms proved
end Go.Proofs.Ytanaficinidffaa.brakingAllowed
