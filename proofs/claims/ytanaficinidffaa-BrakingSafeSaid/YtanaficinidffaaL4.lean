/- The law BrakingSafe returns true for every input; its arguments read afterwards as before. No condition. -/
import Derived.Test.YtanaficinidffaaWd
import Derived.Test.YtanaficinidffaaFrame
import Derived.Test.YtanaficinidffaaRows
namespace Go.Proofs.Ytanaficinidffaa.brakingSafe
open Go.ChangeShapes Go.WideShapes Go.ChangeAt Go.RowKit

set_option linter.unusedVariables false

set_option maxHeartbeats 2000000 in
theorem walk_no (v g s a b h m : Int) (e0 : safeF v g s a b h m = false) (w : World) : Calls Try.prog 3 #[.int .i64 v, .int .i64 g, lim s a b h m] w fun e w' => e = .returned (.bool true) ∧ Below w.heap.size w w' := by
  have hb : Below (w.alloc (.cells #[.int .i64 s, .int .i64 a, .int .i64 b, .int .i64 h, .int .i64 m] 23)).heap.size (w.alloc (.cells #[.int .i64 s, .int .i64 a, .int .i64 b, .int .i64 h, .int .i64 m] 23)) (w.alloc (.cells #[.int .i64 s, .int .i64 a, .int .i64 b, .int .i64 h, .int .i64 m] 23)) := Below.refl _ _
  go_enter Try.func3, Try.ntmps3
  go_wp2_with (first
    | (go_at_call 10; refine (safe_any _ _ _ _ _ _ _ _).mono ?_; rintro e w2 ⟨rfl, hb2⟩; replace hb := below_then hb hb2; clear hb2; obtain ⟨hc, hf⟩ := bcell hb)
    | (go_at_call 11; refine (rsafe_any _ _ _ _ _ _ _ _).mono ?_; rintro e w2 ⟨rfl, hb2⟩; replace hb := below_then hb hb2; clear hb2; obtain ⟨hc, hf⟩ := bcell hb)
    | (go_at_call 13; refine (rvalid_any _ _ _ _ _ _).mono ?_; rintro e w2 ⟨rfl, hb2⟩; replace hb := below_then hb hb2; clear hb2; obtain ⟨hc, hf⟩ := bcell hb)
    | (go_at_call 12; refine (awake_any _).mono ?_; rintro e w2 ⟨rfl, hb2⟩; replace hb := below_then hb hb2; clear hb2))
  go_ret
  exact ⟨rfl, below_box hb⟩
set_option maxHeartbeats 2000000 in
theorem walk_far (v g s a b h m : Int) (e0 : safeF v g s a b h m = true) (e1 : vld s a b h m = true) (h0 : 0 ≤ v) (h1 : v ≤ 4096) (hg : 1152921504606846976 < g) (w : World) : Calls Try.prog 3 #[.int .i64 v, .int .i64 g, lim s a b h m] w fun e w' => e = .returned (.bool true) ∧ Below w.heap.size w w' := by
  have hb : Below (w.alloc (.cells #[.int .i64 s, .int .i64 a, .int .i64 b, .int .i64 h, .int .i64 m] 23)).heap.size (w.alloc (.cells #[.int .i64 s, .int .i64 a, .int .i64 b, .int .i64 h, .int .i64 m] 23)) (w.alloc (.cells #[.int .i64 s, .int .i64 a, .int .i64 b, .int .i64 h, .int .i64 m] 23)) := Below.refl _ _
  go_enter Try.func3, Try.ntmps3
  go_wp2_with (first
    | (go_at_call 10; refine (safe_any _ _ _ _ _ _ _ _).mono ?_; rintro e w2 ⟨rfl, hb2⟩; replace hb := below_then hb hb2; clear hb2; obtain ⟨hc, hf⟩ := bcell hb)
    | (go_at_call 11; refine (rsafe_any _ _ _ _ _ _ _ _).mono ?_; rintro e w2 ⟨rfl, hb2⟩; replace hb := below_then hb hb2; clear hb2; obtain ⟨hc, hf⟩ := bcell hb)
    | (go_at_call 13; refine (rvalid_any _ _ _ _ _ _).mono ?_; rintro e w2 ⟨rfl, hb2⟩; replace hb := below_then hb hb2; clear hb2; obtain ⟨hc, hf⟩ := bcell hb)
    | (go_at_call 12; refine (awake_any _).mono ?_; rintro e w2 ⟨rfl, hb2⟩; replace hb := below_then hb hb2; clear hb2))
  go_ret
  exact ⟨rfl, below_box hb⟩
theorem step_safe {v g s a b h m : Int} (e0 : safeF v g s a b h m = true) (hv : 0 < v) : safeF (max (v - b) 0) (g - v - h) s a b h m = true := by
  rw [safe_iff] at e0 ⊢
  obtain ⟨h1, h2, h3⟩ := e0
  have hb := (vld_iff.1 h2).2.2.1
  have := need_step (v := v) (b := b) (h := h) (m := m) (by omega) hb.1
  exact ⟨by omega, h2, by omega⟩
theorem step_need {v g s a b h m : Int} (e0 : safeF v g s a b h m = true) (hv : 0 < v) : needF v s a b h m = v + h + needF (max (v - b) 0) s a b h m ∧ 0 ≤ needF (max (v - b) 0) s a b h m ∧ needF (max (v - b) 0) s a b h m ≤ 34607104 ∧ needF v s a b h m ≤ g := by
  obtain ⟨h1, h2, h3⟩ := safe_iff.1 e0
  obtain ⟨v1, v2, v3, v4, v5⟩ := vld_iff.1 h2
  have e1 := inB_true h1.1 h1.2
  have e2 := inB_true (n := max (v - b) 0) (low := 0) (high := 4096) (by omega) (by omega)
  have e3 := need_step (v := v) (b := b) (h := h) (m := m) (by omega) v3.1
  have e4 := need_bounds (v := max (v - b) 0) (b := b) (h := h) (m := m) (by omega) (by omega) v3.1 v4.1 v4.2 v5.1 v5.2
  simp only [needF, e1, e2, h2, Bool.and_self, if_true]
  omega
set_option maxHeartbeats 4000000 in
theorem walk_yes (v g s a b h m : Int) (e0 : safeF v g s a b h m = true) (e1 : vld s a b h m = true) (h0 : 0 ≤ v) (h1 : v ≤ 4096) (hg : g ≤ 1152921504606846976) (w : World) : Calls Try.prog 3 #[.int .i64 v, .int .i64 g, lim s a b h m] w fun e w' => e = .returned (.bool true) ∧ Below w.heap.size w w' := by
  obtain ⟨v1, v2, v3, v4, v5⟩ := vld_iff.1 e1
  obtain ⟨b1, b2⟩ := v3
  obtain ⟨p1, p2⟩ := v4
  obtain ⟨m1, m2⟩ := v5
  have b3 : b ≤ 4096 := by omega
  clear v1 v2 b2
  have hb : Below (w.alloc (.cells #[.int .i64 s, .int .i64 a, .int .i64 b, .int .i64 h, .int .i64 m] 23)).heap.size (w.alloc (.cells #[.int .i64 s, .int .i64 a, .int .i64 b, .int .i64 h, .int .i64 m] 23)) (w.alloc (.cells #[.int .i64 s, .int .i64 a, .int .i64 b, .int .i64 h, .int .i64 m] 23)) := Below.refl _ _
  go_enter Try.func3, Try.ntmps3
  go_wp2_with (first
    | (go_at_call 10; refine (safe_any _ _ _ _ _ _ _ _).mono ?_; rintro e w2 ⟨rfl, hb2⟩; replace hb := below_then hb hb2; clear hb2; obtain ⟨hc, hf⟩ := bcell hb)
    | (go_at_call 11; refine (rsafe_any _ _ _ _ _ _ _ _).mono ?_; rintro e w2 ⟨rfl, hb2⟩; replace hb := below_then hb hb2; clear hb2; obtain ⟨hc, hf⟩ := bcell hb)
    | (go_at_call 13; refine (rvalid_any _ _ _ _ _ _).mono ?_; rintro e w2 ⟨rfl, hb2⟩; replace hb := below_then hb hb2; clear hb2; obtain ⟨hc, hf⟩ := bcell hb)
    | (go_at_call 12; refine (awake_any _).mono ?_; rintro e w2 ⟨rfl, hb2⟩; replace hb := below_then hb hb2; clear hb2))
  clear hc hf
  go_loopw [0, 1, 7] (fun x y i wr => ∃ u q k : Int, 0 ≤ u ∧ u ≤ 4096 ∧ 0 ≤ k ∧ k + u ≤ 4096 ∧ q ≤ 1152921504606846976 ∧ Hid (safeF u q s a b h m = true) ∧ x = .int .i64 u ∧ y = .int .i64 q ∧ i = .int .i64 k ∧ Below (w.alloc (.cells #[.int .i64 s, .int .i64 a, .int .i64 b, .int .i64 h, .int .i64 m] 23)).heap.size (w.alloc (.cells #[.int .i64 s, .int .i64 a, .int .i64 b, .int .i64 h, .int .i64 m] 23)) wr) (fun x _ _ _ => (intOf x).toNat)
  case atStart => exact ⟨v, g, 0, h0, h1, by omega, by omega, hg, hid e0, rfl, rfl, rfl, hb⟩
  case round =>
    clear hb e0
    obtain ⟨u, q, k, u0, u1, k0, k1, q1, HS, rfl, rfl, rfl, hb⟩ := hrel
    obtain ⟨hc, hf⟩ := bcell hb
    have q0 : 0 ≤ q := by
      obtain ⟨x1, x2, x3⟩ := safe_iff.1 HS.out
      have := need_bounds (v := u) (b := b) (h := h) (m := m) (by omega) (by omega) b1 p1 p2 m1 m2
      omega
    by_cases hu : 0 < u
    · have hs := step_safe HS.out hu
      obtain ⟨n1, n2, n3, n4⟩ := step_need HS.out hu
      by_cases hx : u - b < 0
      · have hx0 : max (u - b) 0 = 0 := by omega
        rw [hx0] at hs n1 n2 n3
        clear hx0
        go_wp2_with fail
        refine wp_region_later hb (by kernel_rfl) (by kernel_rfl) ?_
        have hl : ∀ (x : Later (w.alloc (.cells #[.int .i64 s, .int .i64 a, .int .i64 b, .int .i64 h, .int .i64 m] 23))) (o : Nat), x.val.cell? ⟨w.heap.size, o, none⟩ = (w.alloc (.cells #[.int .i64 s, .int .i64 a, .int .i64 b, .int .i64 h, .int .i64 m] 23)).cell? ⟨w.heap.size, o, none⟩ := fun x o => x.cell (by simp)
        clear hc hf hb
        repeat (go_big_quiet_step ((go_at_call 14; exact calls_later (need_any _ _ _ _ _ _ _))))
        refine wpQuiet_nil ?_
        intro _ hw'
        obtain ⟨y, hw''⟩ := hw'
        subst hw''
        clear hl
        have hb := y.ok
        obtain ⟨hc, hf⟩ := bcell hb
        go_wp2_with (first
    | (go_at_call 10; refine (safe_any _ _ _ _ _ _ _ _).mono ?_; rintro e w2 ⟨rfl, hb2⟩; replace hb := below_then hb hb2; clear hb2; obtain ⟨hc, hf⟩ := bcell hb)
    | (go_at_call 11; refine (rsafe_any _ _ _ _ _ _ _ _).mono ?_; rintro e w2 ⟨rfl, hb2⟩; replace hb := below_then hb hb2; clear hb2; obtain ⟨hc, hf⟩ := bcell hb)
    | (go_at_call 13; refine (rvalid_any _ _ _ _ _ _).mono ?_; rintro e w2 ⟨rfl, hb2⟩; replace hb := below_then hb hb2; clear hb2; obtain ⟨hc, hf⟩ := bcell hb)
    | (go_at_call 12; refine (awake_any _).mono ?_; rintro e w2 ⟨rfl, hb2⟩; replace hb := below_then hb hb2; clear hb2))
        go_roundw
        case rel => exact ⟨0, q - u - h, k + 1, by omega, by omega, by omega, by omega, by omega, hid hs, rfl, rfl, rfl, hb⟩
        case measure => simp [intOf]; omega
      · have hx' : 0 ≤ u - b := by omega
        have hx0 : max (u - b) 0 = u - b := by omega
        rw [hx0] at hs n1 n2 n3
        clear hx0 hx
        go_wp2_with fail
        refine wp_region_later hb (by kernel_rfl) (by kernel_rfl) ?_
        have hl : ∀ (x : Later (w.alloc (.cells #[.int .i64 s, .int .i64 a, .int .i64 b, .int .i64 h, .int .i64 m] 23))) (o : Nat), x.val.cell? ⟨w.heap.size, o, none⟩ = (w.alloc (.cells #[.int .i64 s, .int .i64 a, .int .i64 b, .int .i64 h, .int .i64 m] 23)).cell? ⟨w.heap.size, o, none⟩ := fun x o => x.cell (by simp)
        clear hc hf hb
        repeat (go_big_quiet_step ((go_at_call 14; exact calls_later (need_any _ _ _ _ _ _ _))))
        refine wpQuiet_nil ?_
        intro _ hw'
        obtain ⟨y, hw''⟩ := hw'
        subst hw''
        clear hl
        have hb := y.ok
        obtain ⟨hc, hf⟩ := bcell hb
        go_wp2_with (first
    | (go_at_call 10; refine (safe_any _ _ _ _ _ _ _ _).mono ?_; rintro e w2 ⟨rfl, hb2⟩; replace hb := below_then hb hb2; clear hb2; obtain ⟨hc, hf⟩ := bcell hb)
    | (go_at_call 11; refine (rsafe_any _ _ _ _ _ _ _ _).mono ?_; rintro e w2 ⟨rfl, hb2⟩; replace hb := below_then hb hb2; clear hb2; obtain ⟨hc, hf⟩ := bcell hb)
    | (go_at_call 13; refine (rvalid_any _ _ _ _ _ _).mono ?_; rintro e w2 ⟨rfl, hb2⟩; replace hb := below_then hb hb2; clear hb2; obtain ⟨hc, hf⟩ := bcell hb)
    | (go_at_call 12; refine (awake_any _).mono ?_; rintro e w2 ⟨rfl, hb2⟩; replace hb := below_then hb hb2; clear hb2))
        go_roundw
        case rel => exact ⟨u - b, q - u - h, k + 1, by omega, by omega, by omega, by omega, by omega, hid hs, rfl, rfl, rfl, hb⟩
        case measure => simp [intOf]; omega
    · obtain rfl : u = 0 := by omega
      have hq : m ≤ q := by
        obtain ⟨x1, x2, x3⟩ := safe_iff.1 HS.out
        rw [need_zero b1] at x3
        omega
      go_wp2_with (first
    | (go_at_call 10; refine (safe_any _ _ _ _ _ _ _ _).mono ?_; rintro e w2 ⟨rfl, hb2⟩; replace hb := below_then hb hb2; clear hb2; obtain ⟨hc, hf⟩ := bcell hb)
    | (go_at_call 11; refine (rsafe_any _ _ _ _ _ _ _ _).mono ?_; rintro e w2 ⟨rfl, hb2⟩; replace hb := below_then hb hb2; clear hb2; obtain ⟨hc, hf⟩ := bcell hb)
    | (go_at_call 13; refine (rvalid_any _ _ _ _ _ _).mono ?_; rintro e w2 ⟨rfl, hb2⟩; replace hb := below_then hb hb2; clear hb2; obtain ⟨hc, hf⟩ := bcell hb)
    | (go_at_call 12; refine (awake_any _).mono ?_; rintro e w2 ⟨rfl, hb2⟩; replace hb := below_then hb hb2; clear hb2))
      go_ret
      exact ⟨rfl, below_box hb⟩
theorem walk (a0 : Int) (w0 : (Lit.int .i64 a0).wf = true) (a1 : Int) (w1 : (Lit.int .i64 a1).wf = true) (a20 a21 a22 a23 a24 : Int) (w20 : (Lit.int .i64 a20).wf = true) (w21 : (Lit.int .i64 a21).wf = true) (w22 : (Lit.int .i64 a22).wf = true) (w23 : (Lit.int .i64 a23).wf = true) (w24 : (Lit.int .i64 a24).wf = true) (w : World) : Calls Try.prog 3 #[.int .i64 a0, .int .i64 a1, lim a20 a21 a22 a23 a24] w fun e w' => e = .returned (.bool true) ∧ Below w.heap.size w w' := by
  cases e0 : safeF a0 a1 a20 a21 a22 a23 a24
  · exact walk_no _ _ _ _ _ _ _ e0 w
  · obtain ⟨h1, h2, h3⟩ := safe_iff.1 e0
    by_cases hg : 1152921504606846976 < a1
    · exact walk_far _ _ _ _ _ _ _ e0 h2 h1.1 h1.2 hg w
    · exact walk_yes _ _ _ _ _ _ _ e0 h2 h1.1 h1.2 (by omega) w

theorem own : ownKnob Try.prog.godebug = none := by kernel_rfl
set_option maxRecDepth 100000 in
theorem lifted (os : Os) (started : os.Started) (H : Type) (enc : TypeId × Value → H) :
    ReturnsInHanded {} Try.checked os 3 .any (Rows.brakingSafeSpec.pre6 enc Try.prog Try.f3 Rows.brakingSafeRow.domain false) (Rows.brakingSafeSpec.post enc Try.prog Try.f3 false true false false) := by
  refine returnsInHanded_of_change (C := Try.checked) own started (by kernel_rfl) Try.func3
    (ChangeSpec.witness6 (enc := enc) (C := Try.checked) false ⟨#[], #[.int .i64 0, .int .i64 0, .agg #[.int .i64 0, .int .i64 0, .int .i64 0, .int .i64 0, .int .i64 0]], []⟩ 8 (by kernel_rfl) (by kernel_rfl) (by kernel_rfl) (by kernel_rfl)) ?_
  intro W base args ds gs before hval0 hW _ _
  have hval : ∀ (j : Nat) t v, Try.f3.params[j]? = some t → args[j]? = some v → Value.okWide Try.prog W .any base t v := hval0
  have hW' := hW
  obtain ⟨p, q, hA0, hV, rfl, hfz, hnd⟩ := hW
  have hA : DataW.TrodAll enc Try.prog W 0 (fun _ => true) true Try.f3.params.toList args.toList ds p := hA0
  rw [Try.params3] at hA hval
  obtain ⟨v0, vs0, d0, ds0, p0, q0, hargs, rfl, rfl, h0, r0⟩ := trodAll_cons hA
  obtain ⟨v1, vs1, d1, ds1, p1, q1, rfl, rfl, rfl, h1, r1⟩ := trodAll_cons r0
  obtain ⟨v2, vs2, d2, ds2, p2, q2, rfl, rfl, rfl, h2, r2⟩ := trodAll_cons r1
  obtain ⟨rfl, rfl, rfl⟩ := trodAll_nil r2
  obtain rfl : args = #[v0, v1, v2] := by cases args; simp_all
  obtain ⟨rfl, rfl⟩ := trodVars_none hV
  obtain ⟨a0, rfl, rfl, rfl, w0⟩ := open_int Try.underlying3 (hval 0 3 v0 rfl rfl) h0
  obtain ⟨a1, rfl, rfl, rfl, w1⟩ := open_int Try.underlying3 (hval 1 3 v1 rfl rfl) h1
  obtain ⟨a20, a21, a22, a23, a24, rfl, w20, w21, w22, w23, w24⟩ := open_ints5 Try.underlying23 (by kernel_rfl) (by kernel_rfl) Try.underlying3 rfl rfl rfl rfl rfl (hval 2 23 v2 rfl rfl) h2
  refine (walk a0 w0 a1 w1 a20 a21 a22 a23 a24 w20 w21 w22 w23 w24 W).mono fun e W' ⟨he, hb⟩ => ?_
  subst he
  exact ⟨_, rfl, law_post (by kernel_rfl) (by kernel_rfl) rfl (show Try.f3.resultTypes = #[4] by kernel_rfl) Try.underlying4 hW' rfl rfl rfl hb⟩
theorem over : Rows.brakingSafeRow.holds Try.pinned (OpenSpec.ofChange Rows.brakingSafeSpec) :=
  OpenClaim.holds_of_wide 3 Try.f3 rfl rfl rfl rfl rfl rfl rfl ⟨rfl, rfl, rfl, rfl, rfl⟩ rfl rfl rfl rfl rfl (by kernel_rfl) Try.func3 (by kernel_rfl)
    (of_decide_eq_true (by kernel_rfl)) (by unfold Func.isWrapper; first | (rw [if_pos (by decide +kernel)]; kernel_rfl) | (rw [if_neg (by decide +kernel)]; exact ⟨rfl, rfl⟩))
    (fun os started H enc _ => lifted os started H enc)
/-- THE STATEMENT. -/
theorem proved : Rows.BrakingSafeSaid := over
#print axioms proved
end Go.Proofs.Ytanaficinidffaa.brakingSafe
