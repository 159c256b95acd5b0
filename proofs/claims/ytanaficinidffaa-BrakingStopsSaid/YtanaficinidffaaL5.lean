/- The law BrakingStops returns true for every input; its arguments read afterwards as before. No condition. -/
import Derived.Test.YtanaficinidffaaWd
import Derived.Test.YtanaficinidffaaFrame
import Derived.Test.YtanaficinidffaaRows
namespace Go.Proofs.Ytanaficinidffaa.brakingStops
open Go.ChangeShapes Go.WideShapes Go.ChangeAt Go.RowKit

set_option linter.unusedVariables false

theorem out_way (v b : Int) (h : ¬ (0 ≤ v ∧ v ≤ 4096) ∨ ¬ (1 ≤ b ∧ b ≤ 4096)) : wayF v b = 0 ∧ tckF v b = 0 := by
  rcases h with h | h
  · have := inB_false h
    simp [wayF, tckF, this]
  · have := inB_false h
    simp [wayF, tckF, this]
/-- the speed after k ticks, and the way in k ticks -/
def nowk (v b : Int) : Nat → Int
  | 0 => v
  | n + 1 => max (nowk v b n - b) 0
theorem nowk_eq (v b : Int) (hv : 0 ≤ v) (hb : 1 ≤ b) : ∀ n : Nat, (n : Int) ≤ tck v b → nowk v b n = max (v - n * b) 0
  | 0, _ => by simp [nowk]; omega
  | n + 1, h => by
    have hn := (tck_iff (v := v) (b := b) (k := n) hb).1 (by omega)
    rw [nowk, nowk_eq v b hv hb n (by omega)]
    have : ((n + 1 : Nat) : Int) * b = n * b + b := by push_cast; rw [Int.add_mul]; omega
    omega
set_option maxHeartbeats 4000000 in
theorem stepsIn (v b : Int) (hv : 0 ≤ v) (hv' : v ≤ 4096) (hb : 1 ≤ b) (hb' : b ≤ 4096) (T : Int) (hT : Hid (tck v b = T)) (hT0 : 0 ≤ T) (hT1 : T ≤ 4096) (eT : tckF v b = T) (D N : Int) (hD : Hid (way v b = D)) (eD : wayF v b = D) (hD1 : D ≤ 16777216) (hN0 : 0 ≤ N) (eN : wayF (max (v - b) 0) b = N) (hN : Hid (D = v + N)) (hN1 : N ≤ 16777216) (w : World) : Calls Try.prog 6 #[.int .i64 v, .int .i64 b] w fun e w' => e = .returned (.bool true) ∧ Below w.heap.size w w' := by
  go_enter Try.func6, Try.ntmps6
  go_wp2_with (first
    | (go_at_call 15; refine (distance_any _ _ _).mono ?_; rintro e w' ⟨rfl, rfl⟩)
    | (go_at_call 17; refine (ticks_any _ _ _).mono ?_; rintro e w' ⟨rfl, rfl⟩)
    | (go_at_call 12; refine (awake_any _).mono ?_; rintro e w2 ⟨rfl, hb⟩))
  go_loop [5, 6, 8] (fun x y i => ∃ k : Nat, (k : Int) ≤ T ∧ i = .int .i64 k ∧ x = .int .i64 (sumD v b k) ∧ ∃ u : Int, Hid (u = max (v - k * b) 0) ∧ y = .int .i64 u) (fun _ _ i => (T - intOf i).toNat)
  case atStart => exact ⟨0, hT0, rfl, rfl, v, hid (by simp; omega), rfl⟩
  case round =>
    obtain ⟨k, hk, rfl, rfl, u, hu, rfl⟩ := hrel
    have hs : 0 ≤ sumD v b k := sumD_nonneg v b hb k (by rw [hT.out]; exact hk)
    have hs2 : sumD v b k ≤ v * k := sumD_le v b hv hb k
    have hs3 : v * k ≤ 4096 * 4096 := Int.mul_le_mul hv' (by omega) (by omega) (by omega)
    have hs4 : sumD v b k ≤ 16777216 := by omega
    clear hs2 hs3
    have hu0 : 0 ≤ u := by have := hu.out; omega
    have hu1 : u ≤ 4096 := by
      have := hu.out
      have : 0 ≤ (k : Int) * b := Int.mul_nonneg (by omega) (by omega)
      omega
    have hki := tck_iff (v := v) (b := b) (k := k) hb
    rw [hT.out] at hki
    by_cases hlt : (k : Int) < T
    · have hpos : 0 < v - k * b := hki.1 hlt
      have hu2 : 0 < u := by have := hu.out; omega
      have HP := hid hpos
      clear hki hpos hu0
      go_wp2
      go_round
      case rel => exact ⟨k + 1, by omega, by go_num, by have := HP.out; have := hu.out; simp only [sumD]; exact congrArg _ (by omega), max (u - b) 0, hid (by have := HP.out; have := hu.out; have e : ((k + 1 : Nat) : Int) * b = k * b + b := (by push_cast; rw [Int.add_mul]; omega); omega), by go_num⟩
      case measure => simp [intOf]; omega
    · have hge : v - k * b ≤ 0 := by
        rcases Int.lt_or_le 0 (v - k * b) with h | h
        · exact absurd (hki.2 h) hlt
        · exact h
      obtain rfl : u = 0 := by have := hu.out; omega
      have eS : sumD v b k = D := by
        rw [← hD.out]; unfold way; rw [hT.out, show T.toNat = k from by omega]
      have HN := hN.out
      clear hki hge hu hs hs4
      have e1 : (D == v + N) = true := by simpa using HN
      clear HN
      by_cases hx : v - b < 0
      · have eN' : wayF 0 b = N := by rw [← eN, show max (v - b) 0 = 0 from by omega]
        clear eN
        go_wp2_with (first
    | (go_at_call 15; refine (distance_any _ _ _).mono ?_; rintro e w' ⟨rfl, rfl⟩)
    | (go_at_call 17; refine (ticks_any _ _ _).mono ?_; rintro e w' ⟨rfl, rfl⟩)
    | (go_at_call 12; refine (awake_any _).mono ?_; rintro e w2 ⟨rfl, hb⟩))
        go_ret
        exact ⟨rfl, hb⟩
      · have hx' : 0 ≤ v - b := by omega
        have eN' : wayF (v - b) b = N := by rw [← eN, show max (v - b) 0 = v - b from by omega]
        clear eN hx
        go_wp2_with (first
    | (go_at_call 15; refine (distance_any _ _ _).mono ?_; rintro e w' ⟨rfl, rfl⟩)
    | (go_at_call 17; refine (ticks_any _ _ _).mono ?_; rintro e w' ⟨rfl, rfl⟩)
    | (go_at_call 12; refine (awake_any _).mono ?_; rintro e w2 ⟨rfl, hb⟩))
        go_ret
        exact ⟨rfl, hb⟩
set_option maxHeartbeats 4000000 in
theorem walk_out (v b : Int) (h : v < 0 ∨ 4096 < v ∨ b < 1 ∨ 4096 < b) (w : World) : Calls Try.prog 6 #[.int .i64 v, .int .i64 b] w fun e w' => e = .returned (.bool true) ∧ Below w.heap.size w w' := by
  have hz := out_way v b (by omega)
  obtain ⟨z1, z2⟩ := hz
  by_cases h1 : v < 0
  · clear h
    go_enter Try.func6, Try.ntmps6
    go_wp2_with (first
    | (go_at_call 15; refine (distance_any _ _ _).mono ?_; rintro e w' ⟨rfl, rfl⟩)
    | (go_at_call 17; refine (ticks_any _ _ _).mono ?_; rintro e w' ⟨rfl, rfl⟩)
    | (go_at_call 12; refine (awake_any _).mono ?_; rintro e w2 ⟨rfl, hb⟩))
    go_ret
    exact ⟨rfl, hb⟩
  by_cases h2 : 4096 < v
  · clear h
    go_enter Try.func6, Try.ntmps6
    go_wp2_with (first
    | (go_at_call 15; refine (distance_any _ _ _).mono ?_; rintro e w' ⟨rfl, rfl⟩)
    | (go_at_call 17; refine (ticks_any _ _ _).mono ?_; rintro e w' ⟨rfl, rfl⟩)
    | (go_at_call 12; refine (awake_any _).mono ?_; rintro e w2 ⟨rfl, hb⟩))
    go_ret
    exact ⟨rfl, hb⟩
  by_cases h3 : b < 1
  · clear h
    go_enter Try.func6, Try.ntmps6
    go_wp2_with (first
    | (go_at_call 15; refine (distance_any _ _ _).mono ?_; rintro e w' ⟨rfl, rfl⟩)
    | (go_at_call 17; refine (ticks_any _ _ _).mono ?_; rintro e w' ⟨rfl, rfl⟩)
    | (go_at_call 12; refine (awake_any _).mono ?_; rintro e w2 ⟨rfl, hb⟩))
    go_ret
    exact ⟨rfl, hb⟩
  have h4 : 4096 < b := by omega
  clear h
  go_enter Try.func6, Try.ntmps6
  go_wp2_with (first
  | (go_at_call 15; refine (distance_any _ _ _).mono ?_; rintro e w' ⟨rfl, rfl⟩)
  | (go_at_call 17; refine (ticks_any _ _ _).mono ?_; rintro e w' ⟨rfl, rfl⟩)
  | (go_at_call 12; refine (awake_any _).mono ?_; rintro e w2 ⟨rfl, hb⟩))
  go_ret
  exact ⟨rfl, hb⟩

theorem walk (a0 : Int) (w0 : (Lit.int .i64 a0).wf = true) (a1 : Int) (w1 : (Lit.int .i64 a1).wf = true) (w : World) : Calls Try.prog 6 #[.int .i64 a0, .int .i64 a1] w fun e w' => e = .returned (.bool true) ∧ Below w.heap.size w w' := by
  by_cases h : a0 < 0 ∨ 4096 < a0 ∨ a1 < 1 ∨ 4096 < a1
  · exact walk_out _ _ h w
  · have e1 := inB_true (n := a0) (low := 0) (high := 4096) (by omega) (by omega)
    have e2 := inB_true (n := a1) (low := 1) (high := 4096) (by omega) (by omega)
    have e3 := inB_true (n := max (a0 - a1) 0) (low := 0) (high := 4096) (by omega) (by omega)
    have t := tck_bounds (v := a0) (b := a1) (by omega) (by omega)
    have d := way_le (v := a0) (b := a1) (by omega) (by omega) (by omega)
    have n := way_le (v := max (a0 - a1) 0) (b := a1) (by omega) (by omega) (by omega)
    refine stepsIn a0 a1 (by omega) (by omega) (by omega) (by omega) _ (hid rfl) t.1 (by omega) (by simp [tckF, e1, e2]) (way a0 a1) (way (max (a0 - a1) 0) a1) (hid rfl) (by simp [wayF, e1, e2]) d.2 n.1 (by simp [wayF, e3, e2]) (hid ?_) n.2 w
    by_cases hp : 1 ≤ a0
    · exact way_step hp (by omega)
    · obtain rfl : a0 = 0 := by omega
      rw [show max (0 - a1) 0 = 0 from by omega, way_zero (by omega)]; rfl

theorem own : ownKnob Try.prog.godebug = none := by kernel_rfl
set_option maxRecDepth 100000 in
theorem lifted (os : Os) (started : os.Started) (H : Type) (enc : TypeId × Value → H) :
    ReturnsInHanded {} Try.checked os 6 .any (Rows.brakingStopsSpec.pre6 enc Try.prog Try.f6 Rows.brakingStopsRow.domain false) (Rows.brakingStopsSpec.post enc Try.prog Try.f6 false true false false) := by
  refine returnsInHanded_of_change (C := Try.checked) own started (by kernel_rfl) Try.func6
    (ChangeSpec.witness6 (enc := enc) (C := Try.checked) false ⟨#[], #[.int .i64 0, .int .i64 0], []⟩ 8 (by kernel_rfl) (by kernel_rfl) (by kernel_rfl) (by kernel_rfl)) ?_
  intro W base args ds gs before hval0 hW _ _
  have hval : ∀ (j : Nat) t v, Try.f6.params[j]? = some t → args[j]? = some v → Value.okWide Try.prog W .any base t v := hval0
  have hW' := hW
  obtain ⟨p, q, hA0, hV, rfl, hfz, hnd⟩ := hW
  have hA : DataW.TrodAll enc Try.prog W 0 (fun _ => true) true Try.f6.params.toList args.toList ds p := hA0
  rw [Try.params6] at hA hval
  obtain ⟨v0, vs0, d0, ds0, p0, q0, hargs, rfl, rfl, h0, r0⟩ := trodAll_cons hA
  obtain ⟨v1, vs1, d1, ds1, p1, q1, rfl, rfl, rfl, h1, r1⟩ := trodAll_cons r0
  obtain ⟨rfl, rfl, rfl⟩ := trodAll_nil r1
  obtain rfl : args = #[v0, v1] := by cases args; simp_all
  obtain ⟨rfl, rfl⟩ := trodVars_none hV
  obtain ⟨a0, rfl, rfl, rfl, w0⟩ := open_int Try.underlying3 (hval 0 3 v0 rfl rfl) h0
  obtain ⟨a1, rfl, rfl, rfl, w1⟩ := open_int Try.underlying3 (hval 1 3 v1 rfl rfl) h1
  refine (walk a0 w0 a1 w1 W).mono fun e W' ⟨he, hb⟩ => ?_
  subst he
  exact ⟨_, rfl, law_post (by kernel_rfl) (by kernel_rfl) rfl (show Try.f6.resultTypes = #[4] by kernel_rfl) Try.underlying4 hW' rfl rfl rfl hb⟩
theorem over : Rows.brakingStopsRow.holds Try.pinned (OpenSpec.ofChange Rows.brakingStopsSpec) :=
  OpenClaim.holds_of_wide 6 Try.f6 rfl rfl rfl rfl rfl rfl rfl ⟨rfl, rfl, rfl, rfl, rfl⟩ rfl rfl rfl rfl rfl (by kernel_rfl) Try.func6 (by kernel_rfl)
    (of_decide_eq_true (by kernel_rfl)) (by unfold Func.isWrapper; first | (rw [if_pos (by decide +kernel)]; kernel_rfl) | (rw [if_neg (by decide +kernel)]; exact ⟨rfl, rfl⟩))
    (fun os started H enc _ => lifted os started H enc)
/-- THE STATEMENT. -/
theorem proved : Rows.BrakingStopsSaid := over
#print axioms proved
end Go.Proofs.Ytanaficinidffaa.brakingStops
