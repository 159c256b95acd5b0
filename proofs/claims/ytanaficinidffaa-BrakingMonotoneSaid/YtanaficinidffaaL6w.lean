import Derived.Test.YtanaficinidffaaWd
namespace Go.Proofs.Ytanaficinidffaa.brakingMonotone
open Go.RowKit
set_option linter.unusedVariables false
set_option maxHeartbeats 4000000 in
theorem walk_A1_T1 (v b g s a bb h m : Int) (hg63 : g ≤ 9223372036854775807) (hv1 : 1 ≤ v) (hv2 : v ≤ 4096) (hb1 : 1 ≤ b) (hb2 : b < 4096) (hg1 : g < 0) (D D1 D2 T T1 T2 : Int) (e1 : wayF v b = D) (e2 : wayF (v - 1) b = D1) (l1 : D1 < D) (t1 : tckF v b = T) (t2 : tckF (v - 1) b = T1) (l2 : T1 ≤ T) (e3 : wayF v (b + 1) = D2) (l3 : D2 ≤ D) (t3 : tckF v (b + 1) = T2) (l4 : T2 ≤ T)  (w : World) : Calls Try.prog 7 #[.int .i64 v, .int .i64 b, .int .i64 g, lim s a bb h m] w fun e w' => e = .returned (.bool true) ∧ Below w.heap.size w w' := by
  go_enter Try.func7, Try.ntmps7
  go_wp2_with (first
    | (go_at_call 15; refine (distance_any _ _ _).mono ?_; rintro e w' ⟨rfl, rfl⟩)
    | (go_at_call 17; refine (ticks_any _ _ _).mono ?_; rintro e w' ⟨rfl, rfl⟩)
    | (go_at_call 19; refine (pspeed_any _ _ _ hg63).mono ?_; rintro e w' ⟨rfl, rfl⟩)
    | (go_at_call 12; refine (awake_any _).mono ?_; rintro e w2 ⟨rfl, hb⟩))
  go_ret
  exact ⟨rfl, below_box hb⟩
set_option maxHeartbeats 4000000 in
theorem walk_A1_T2 (v b g s a bb h m : Int) (hg63 : g ≤ 9223372036854775807) (hv1 : 1 ≤ v) (hv2 : v ≤ 4096) (hb1 : 1 ≤ b) (hb2 : b < 4096) (hg1 : 0 ≤ g) (hg2 : 1152921504606846976 < g) (D D1 D2 T T1 T2 : Int) (e1 : wayF v b = D) (e2 : wayF (v - 1) b = D1) (l1 : D1 < D) (t1 : tckF v b = T) (t2 : tckF (v - 1) b = T1) (l2 : T1 ≤ T) (e3 : wayF v (b + 1) = D2) (l3 : D2 ≤ D) (t3 : tckF v (b + 1) = T2) (l4 : T2 ≤ T)  (w : World) : Calls Try.prog 7 #[.int .i64 v, .int .i64 b, .int .i64 g, lim s a bb h m] w fun e w' => e = .returned (.bool true) ∧ Below w.heap.size w w' := by
  go_enter Try.func7, Try.ntmps7
  go_wp2_with (first
    | (go_at_call 15; refine (distance_any _ _ _).mono ?_; rintro e w' ⟨rfl, rfl⟩)
    | (go_at_call 17; refine (ticks_any _ _ _).mono ?_; rintro e w' ⟨rfl, rfl⟩)
    | (go_at_call 19; refine (pspeed_any _ _ _ hg63).mono ?_; rintro e w' ⟨rfl, rfl⟩)
    | (go_at_call 12; refine (awake_any _).mono ?_; rintro e w2 ⟨rfl, hb⟩))
  go_ret
  exact ⟨rfl, below_box hb⟩
set_option maxHeartbeats 4000000 in
theorem walk_A1_T3 (v b g s a bb h m : Int) (hg63 : g ≤ 9223372036854775807) (hv1 : 1 ≤ v) (hv2 : v ≤ 4096) (hb1 : 1 ≤ b) (hb2 : b < 4096) (hg1 : 0 ≤ g) (hg2 : g ≤ 1152921504606846976) (D D1 D2 T T1 T2 : Int) (e1 : wayF v b = D) (e2 : wayF (v - 1) b = D1) (l1 : D1 < D) (t1 : tckF v b = T) (t2 : tckF (v - 1) b = T1) (l2 : T1 ≤ T) (e3 : wayF v (b + 1) = D2) (l3 : D2 ≤ D) (t3 : tckF v (b + 1) = T2) (l4 : T2 ≤ T) (S E E2 S2 R R2 : Int) (es : spdF g b = S) (es1 : 0 ≤ S) (es2 : S < 4096) (ed : wayF S b = E) (ed1 : E ≤ g) (ee : wayF (S + 1) b = E2) (ee1 : g < E2) (er : spdF (g + 1) b = S2) (er1 : S ≤ S2) (ea : allowF g s a bb h m = R) (ea2 : allowF (g + 1) s a bb h m = R2) (eR : R ≤ R2) (w : World) : Calls Try.prog 7 #[.int .i64 v, .int .i64 b, .int .i64 g, lim s a bb h m] w fun e w' => e = .returned (.bool true) ∧ Below w.heap.size w w' := by
  go_enter Try.func7, Try.ntmps7
  go_wp2_with (first
    | (go_at_call 15; refine (distance_any _ _ _).mono ?_; rintro e w' ⟨rfl, rfl⟩)
    | (go_at_call 17; refine (ticks_any _ _ _).mono ?_; rintro e w' ⟨rfl, rfl⟩)
    | (go_at_call 19; refine (pspeed_any _ _ _ hg63).mono ?_; rintro e w' ⟨rfl, rfl⟩)
    | (go_at_call 12; refine (awake_any _).mono ?_; rintro e w2 ⟨rfl, hb⟩))
  have hl : ∀ (x : Later (w.alloc (.cells #[.int .i64 s, .int .i64 a, .int .i64 bb, .int .i64 h, .int .i64 m] 23))) (o : Nat), x.val.cell? ⟨w.heap.size, o, none⟩ = (w.alloc (.cells #[.int .i64 s, .int .i64 a, .int .i64 bb, .int .i64 h, .int .i64 m] 23)).cell? ⟨w.heap.size, o, none⟩ := fun x o => x.cell (by simp)
  refine wp_region_later (Below.refl _ _) (by kernel_rfl) (by kernel_rfl) ?_
  repeat (go_big_quiet_step (first
    | (go_at_call 19; exact calls_later_same (pspeed_any _ _ _ (by omega)))
    | (go_at_call 22; exact calls_later (allow_any _ _ _ _ _ _ _))
    | (go_at_call 12; exact calls_later (awake_any _))))
  refine wpQuiet_nil ?_
  intro _ hw'
  obtain ⟨y, hw''⟩ := hw'
  subst hw''
  have hby := below_box y.ok
  clear hl
  go_wp2
  go_ret
  exact ⟨rfl, hby⟩
set_option maxHeartbeats 4000000 in
theorem walk_A1_T4 (v b g s a bb h m : Int) (hg63 : g ≤ 9223372036854775807) (hv1 : 1 ≤ v) (hv2 : v ≤ 4096) (hb1 : 1 ≤ b) (hb2 : b < 4096) (hg1 : 0 ≤ g) (hg2 : g ≤ 1152921504606846976) (D D1 D2 T T1 T2 : Int) (e1 : wayF v b = D) (e2 : wayF (v - 1) b = D1) (l1 : D1 < D) (t1 : tckF v b = T) (t2 : tckF (v - 1) b = T1) (l2 : T1 ≤ T) (e3 : wayF v (b + 1) = D2) (l3 : D2 ≤ D) (t3 : tckF v (b + 1) = T2) (l4 : T2 ≤ T) (S E S2 R R2 : Int) (es : spdF g b = S) (es1 : S = 4096) (ed : wayF S b = E) (ed1 : E ≤ g) (er : spdF (g + 1) b = S2) (er1 : S ≤ S2) (ea : allowF g s a bb h m = R) (ea2 : allowF (g + 1) s a bb h m = R2) (eR : R ≤ R2) (w : World) : Calls Try.prog 7 #[.int .i64 v, .int .i64 b, .int .i64 g, lim s a bb h m] w fun e w' => e = .returned (.bool true) ∧ Below w.heap.size w w' := by
  subst es1
  go_enter Try.func7, Try.ntmps7
  go_wp2_with (first
    | (go_at_call 15; refine (distance_any _ _ _).mono ?_; rintro e w' ⟨rfl, rfl⟩)
    | (go_at_call 17; refine (ticks_any _ _ _).mono ?_; rintro e w' ⟨rfl, rfl⟩)
    | (go_at_call 19; refine (pspeed_any _ _ _ hg63).mono ?_; rintro e w' ⟨rfl, rfl⟩)
    | (go_at_call 12; refine (awake_any _).mono ?_; rintro e w2 ⟨rfl, hb⟩))
  have hl : ∀ (x : Later (w.alloc (.cells #[.int .i64 s, .int .i64 a, .int .i64 bb, .int .i64 h, .int .i64 m] 23))) (o : Nat), x.val.cell? ⟨w.heap.size, o, none⟩ = (w.alloc (.cells #[.int .i64 s, .int .i64 a, .int .i64 bb, .int .i64 h, .int .i64 m] 23)).cell? ⟨w.heap.size, o, none⟩ := fun x o => x.cell (by simp)
  refine wp_region_later (Below.refl _ _) (by kernel_rfl) (by kernel_rfl) ?_
  repeat (go_big_quiet_step (first
    | (go_at_call 19; exact calls_later_same (pspeed_any _ _ _ (by omega)))
    | (go_at_call 22; exact calls_later (allow_any _ _ _ _ _ _ _))
    | (go_at_call 12; exact calls_later (awake_any _))))
  refine wpQuiet_nil ?_
  intro _ hw'
  obtain ⟨y, hw''⟩ := hw'
  subst hw''
  have hby := below_box y.ok
  clear hl
  go_wp2
  go_ret
  exact ⟨rfl, hby⟩
set_option maxHeartbeats 4000000 in
theorem walk_A2_T1 (v b g s a bb h m : Int) (hg63 : g ≤ 9223372036854775807) (hv1 : 1 ≤ v) (hv2 : v ≤ 4096) (hb1 : b = 4096) (hg1 : g < 0) (D D1 T T1 : Int) (e1 : wayF v b = D) (e2 : wayF (v - 1) b = D1) (l1 : D1 < D) (t1 : tckF v b = T) (t2 : tckF (v - 1) b = T1) (l2 : T1 ≤ T)  (w : World) : Calls Try.prog 7 #[.int .i64 v, .int .i64 b, .int .i64 g, lim s a bb h m] w fun e w' => e = .returned (.bool true) ∧ Below w.heap.size w w' := by
  subst hb1
  go_enter Try.func7, Try.ntmps7
  go_wp2_with (first
    | (go_at_call 15; refine (distance_any _ _ _).mono ?_; rintro e w' ⟨rfl, rfl⟩)
    | (go_at_call 17; refine (ticks_any _ _ _).mono ?_; rintro e w' ⟨rfl, rfl⟩)
    | (go_at_call 19; refine (pspeed_any _ _ _ hg63).mono ?_; rintro e w' ⟨rfl, rfl⟩)
    | (go_at_call 12; refine (awake_any _).mono ?_; rintro e w2 ⟨rfl, hb⟩))
  go_ret
  exact ⟨rfl, below_box hb⟩
set_option maxHeartbeats 4000000 in
theorem walk_A2_T2 (v b g s a bb h m : Int) (hg63 : g ≤ 9223372036854775807) (hv1 : 1 ≤ v) (hv2 : v ≤ 4096) (hb1 : b = 4096) (hg1 : 0 ≤ g) (hg2 : 1152921504606846976 < g) (D D1 T T1 : Int) (e1 : wayF v b = D) (e2 : wayF (v - 1) b = D1) (l1 : D1 < D) (t1 : tckF v b = T) (t2 : tckF (v - 1) b = T1) (l2 : T1 ≤ T)  (w : World) : Calls Try.prog 7 #[.int .i64 v, .int .i64 b, .int .i64 g, lim s a bb h m] w fun e w' => e = .returned (.bool true) ∧ Below w.heap.size w w' := by
  subst hb1
  go_enter Try.func7, Try.ntmps7
  go_wp2_with (first
    | (go_at_call 15; refine (distance_any _ _ _).mono ?_; rintro e w' ⟨rfl, rfl⟩)
    | (go_at_call 17; refine (ticks_any _ _ _).mono ?_; rintro e w' ⟨rfl, rfl⟩)
    | (go_at_call 19; refine (pspeed_any _ _ _ hg63).mono ?_; rintro e w' ⟨rfl, rfl⟩)
    | (go_at_call 12; refine (awake_any _).mono ?_; rintro e w2 ⟨rfl, hb⟩))
  go_ret
  exact ⟨rfl, below_box hb⟩
set_option maxHeartbeats 4000000 in
theorem walk_A2_T3 (v b g s a bb h m : Int) (hg63 : g ≤ 9223372036854775807) (hv1 : 1 ≤ v) (hv2 : v ≤ 4096) (hb1 : b = 4096) (hg1 : 0 ≤ g) (hg2 : g ≤ 1152921504606846976) (D D1 T T1 : Int) (e1 : wayF v b = D) (e2 : wayF (v - 1) b = D1) (l1 : D1 < D) (t1 : tckF v b = T) (t2 : tckF (v - 1) b = T1) (l2 : T1 ≤ T) (S E E2 S2 R R2 : Int) (es : spdF g b = S) (es1 : 0 ≤ S) (es2 : S < 4096) (ed : wayF S b = E) (ed1 : E ≤ g) (ee : wayF (S + 1) b = E2) (ee1 : g < E2) (er : spdF (g + 1) b = S2) (er1 : S ≤ S2) (ea : allowF g s a bb h m = R) (ea2 : allowF (g + 1) s a bb h m = R2) (eR : R ≤ R2) (w : World) : Calls Try.prog 7 #[.int .i64 v, .int .i64 b, .int .i64 g, lim s a bb h m] w fun e w' => e = .returned (.bool true) ∧ Below w.heap.size w w' := by
  subst hb1
  go_enter Try.func7, Try.ntmps7
  go_wp2_with (first
    | (go_at_call 15; refine (distance_any _ _ _).mono ?_; rintro e w' ⟨rfl, rfl⟩)
    | (go_at_call 17; refine (ticks_any _ _ _).mono ?_; rintro e w' ⟨rfl, rfl⟩)
    | (go_at_call 19; refine (pspeed_any _ _ _ hg63).mono ?_; rintro e w' ⟨rfl, rfl⟩)
    | (go_at_call 12; refine (awake_any _).mono ?_; rintro e w2 ⟨rfl, hb⟩))
  have hl : ∀ (x : Later (w.alloc (.cells #[.int .i64 s, .int .i64 a, .int .i64 bb, .int .i64 h, .int .i64 m] 23))) (o : Nat), x.val.cell? ⟨w.heap.size, o, none⟩ = (w.alloc (.cells #[.int .i64 s, .int .i64 a, .int .i64 bb, .int .i64 h, .int .i64 m] 23)).cell? ⟨w.heap.size, o, none⟩ := fun x o => x.cell (by simp)
  refine wp_region_later (Below.refl _ _) (by kernel_rfl) (by kernel_rfl) ?_
  repeat (go_big_quiet_step (first
    | (go_at_call 19; exact calls_later_same (pspeed_any _ _ _ (by omega)))
    | (go_at_call 22; exact calls_later (allow_any _ _ _ _ _ _ _))
    | (go_at_call 12; exact calls_later (awake_any _))))
  refine wpQuiet_nil ?_
  intro _ hw'
  obtain ⟨y, hw''⟩ := hw'
  subst hw''
  have hby := below_box y.ok
  clear hl
  go_wp2
  go_ret
  exact ⟨rfl, hby⟩
set_option maxHeartbeats 4000000 in
theorem walk_A2_T4 (v b g s a bb h m : Int) (hg63 : g ≤ 9223372036854775807) (hv1 : 1 ≤ v) (hv2 : v ≤ 4096) (hb1 : b = 4096) (hg1 : 0 ≤ g) (hg2 : g ≤ 1152921504606846976) (D D1 T T1 : Int) (e1 : wayF v b = D) (e2 : wayF (v - 1) b = D1) (l1 : D1 < D) (t1 : tckF v b = T) (t2 : tckF (v - 1) b = T1) (l2 : T1 ≤ T) (S E S2 R R2 : Int) (es : spdF g b = S) (es1 : S = 4096) (ed : wayF S b = E) (ed1 : E ≤ g) (er : spdF (g + 1) b = S2) (er1 : S ≤ S2) (ea : allowF g s a bb h m = R) (ea2 : allowF (g + 1) s a bb h m = R2) (eR : R ≤ R2) (w : World) : Calls Try.prog 7 #[.int .i64 v, .int .i64 b, .int .i64 g, lim s a bb h m] w fun e w' => e = .returned (.bool true) ∧ Below w.heap.size w w' := by
  subst hb1
  subst es1
  go_enter Try.func7, Try.ntmps7
  go_wp2_with (first
    | (go_at_call 15; refine (distance_any _ _ _).mono ?_; rintro e w' ⟨rfl, rfl⟩)
    | (go_at_call 17; refine (ticks_any _ _ _).mono ?_; rintro e w' ⟨rfl, rfl⟩)
    | (go_at_call 19; refine (pspeed_any _ _ _ hg63).mono ?_; rintro e w' ⟨rfl, rfl⟩)
    | (go_at_call 12; refine (awake_any _).mono ?_; rintro e w2 ⟨rfl, hb⟩))
  have hl : ∀ (x : Later (w.alloc (.cells #[.int .i64 s, .int .i64 a, .int .i64 bb, .int .i64 h, .int .i64 m] 23))) (o : Nat), x.val.cell? ⟨w.heap.size, o, none⟩ = (w.alloc (.cells #[.int .i64 s, .int .i64 a, .int .i64 bb, .int .i64 h, .int .i64 m] 23)).cell? ⟨w.heap.size, o, none⟩ := fun x o => x.cell (by simp)
  refine wp_region_later (Below.refl _ _) (by kernel_rfl) (by kernel_rfl) ?_
  repeat (go_big_quiet_step (first
    | (go_at_call 19; exact calls_later_same (pspeed_any _ _ _ (by omega)))
    | (go_at_call 22; exact calls_later (allow_any _ _ _ _ _ _ _))
    | (go_at_call 12; exact calls_later (awake_any _))))
  refine wpQuiet_nil ?_
  intro _ hw'
  obtain ⟨y, hw''⟩ := hw'
  subst hw''
  have hby := below_box y.ok
  clear hl
  go_wp2
  go_ret
  exact ⟨rfl, hby⟩
set_option maxHeartbeats 4000000 in
theorem walk_B1_T1 (v b g s a bb h m : Int) (hg63 : g ≤ 9223372036854775807) (hv1 : v < 1) (hb1 : 1 ≤ b) (hb2 : b ≤ 4096) (hg1 : g < 0)   (w : World) : Calls Try.prog 7 #[.int .i64 v, .int .i64 b, .int .i64 g, lim s a bb h m] w fun e w' => e = .returned (.bool true) ∧ Below w.heap.size w w' := by
  go_enter Try.func7, Try.ntmps7
  go_wp2_with (first
    | (go_at_call 15; refine (distance_any _ _ _).mono ?_; rintro e w' ⟨rfl, rfl⟩)
    | (go_at_call 17; refine (ticks_any _ _ _).mono ?_; rintro e w' ⟨rfl, rfl⟩)
    | (go_at_call 19; refine (pspeed_any _ _ _ hg63).mono ?_; rintro e w' ⟨rfl, rfl⟩)
    | (go_at_call 12; refine (awake_any _).mono ?_; rintro e w2 ⟨rfl, hb⟩))
  go_ret
  exact ⟨rfl, below_box hb⟩
set_option maxHeartbeats 4000000 in
theorem walk_B1_T2 (v b g s a bb h m : Int) (hg63 : g ≤ 9223372036854775807) (hv1 : v < 1) (hb1 : 1 ≤ b) (hb2 : b ≤ 4096) (hg1 : 0 ≤ g) (hg2 : 1152921504606846976 < g)   (w : World) : Calls Try.prog 7 #[.int .i64 v, .int .i64 b, .int .i64 g, lim s a bb h m] w fun e w' => e = .returned (.bool true) ∧ Below w.heap.size w w' := by
  go_enter Try.func7, Try.ntmps7
  go_wp2_with (first
    | (go_at_call 15; refine (distance_any _ _ _).mono ?_; rintro e w' ⟨rfl, rfl⟩)
    | (go_at_call 17; refine (ticks_any _ _ _).mono ?_; rintro e w' ⟨rfl, rfl⟩)
    | (go_at_call 19; refine (pspeed_any _ _ _ hg63).mono ?_; rintro e w' ⟨rfl, rfl⟩)
    | (go_at_call 12; refine (awake_any _).mono ?_; rintro e w2 ⟨rfl, hb⟩))
  go_ret
  exact ⟨rfl, below_box hb⟩
set_option maxHeartbeats 4000000 in
theorem walk_B1_T3 (v b g s a bb h m : Int) (hg63 : g ≤ 9223372036854775807) (hv1 : v < 1) (hb1 : 1 ≤ b) (hb2 : b ≤ 4096) (hg1 : 0 ≤ g) (hg2 : g ≤ 1152921504606846976)  (S E E2 S2 R R2 : Int) (es : spdF g b = S) (es1 : 0 ≤ S) (es2 : S < 4096) (ed : wayF S b = E) (ed1 : E ≤ g) (ee : wayF (S + 1) b = E2) (ee1 : g < E2) (er : spdF (g + 1) b = S2) (er1 : S ≤ S2) (ea : allowF g s a bb h m = R) (ea2 : allowF (g + 1) s a bb h m = R2) (eR : R ≤ R2) (w : World) : Calls Try.prog 7 #[.int .i64 v, .int .i64 b, .int .i64 g, lim s a bb h m] w fun e w' => e = .returned (.bool true) ∧ Below w.heap.size w w' := by
  go_enter Try.func7, Try.ntmps7
  go_wp2_with (first
    | (go_at_call 15; refine (distance_any _ _ _).mono ?_; rintro e w' ⟨rfl, rfl⟩)
    | (go_at_call 17; refine (ticks_any _ _ _).mono ?_; rintro e w' ⟨rfl, rfl⟩)
    | (go_at_call 19; refine (pspeed_any _ _ _ hg63).mono ?_; rintro e w' ⟨rfl, rfl⟩)
    | (go_at_call 12; refine (awake_any _).mono ?_; rintro e w2 ⟨rfl, hb⟩))
  have hl : ∀ (x : Later (w.alloc (.cells #[.int .i64 s, .int .i64 a, .int .i64 bb, .int .i64 h, .int .i64 m] 23))) (o : Nat), x.val.cell? ⟨w.heap.size, o, none⟩ = (w.alloc (.cells #[.int .i64 s, .int .i64 a, .int .i64 bb, .int .i64 h, .int .i64 m] 23)).cell? ⟨w.heap.size, o, none⟩ := fun x o => x.cell (by simp)
  refine wp_region_later (Below.refl _ _) (by kernel_rfl) (by kernel_rfl) ?_
  repeat (go_big_quiet_step (first
    | (go_at_call 19; exact calls_later_same (pspeed_any _ _ _ (by omega)))
    | (go_at_call 22; exact calls_later (allow_any _ _ _ _ _ _ _))
    | (go_at_call 12; exact calls_later (awake_any _))))
  refine wpQuiet_nil ?_
  intro _ hw'
  obtain ⟨y, hw''⟩ := hw'
  subst hw''
  have hby := below_box y.ok
  clear hl
  go_wp2
  go_ret
  exact ⟨rfl, hby⟩
set_option maxHeartbeats 4000000 in
theorem walk_B1_T4 (v b g s a bb h m : Int) (hg63 : g ≤ 9223372036854775807) (hv1 : v < 1) (hb1 : 1 ≤ b) (hb2 : b ≤ 4096) (hg1 : 0 ≤ g) (hg2 : g ≤ 1152921504606846976)  (S E S2 R R2 : Int) (es : spdF g b = S) (es1 : S = 4096) (ed : wayF S b = E) (ed1 : E ≤ g) (er : spdF (g + 1) b = S2) (er1 : S ≤ S2) (ea : allowF g s a bb h m = R) (ea2 : allowF (g + 1) s a bb h m = R2) (eR : R ≤ R2) (w : World) : Calls Try.prog 7 #[.int .i64 v, .int .i64 b, .int .i64 g, lim s a bb h m] w fun e w' => e = .returned (.bool true) ∧ Below w.heap.size w w' := by
  subst es1
  go_enter Try.func7, Try.ntmps7
  go_wp2_with (first
    | (go_at_call 15; refine (distance_any _ _ _).mono ?_; rintro e w' ⟨rfl, rfl⟩)
    | (go_at_call 17; refine (ticks_any _ _ _).mono ?_; rintro e w' ⟨rfl, rfl⟩)
    | (go_at_call 19; refine (pspeed_any _ _ _ hg63).mono ?_; rintro e w' ⟨rfl, rfl⟩)
    | (go_at_call 12; refine (awake_any _).mono ?_; rintro e w2 ⟨rfl, hb⟩))
  have hl : ∀ (x : Later (w.alloc (.cells #[.int .i64 s, .int .i64 a, .int .i64 bb, .int .i64 h, .int .i64 m] 23))) (o : Nat), x.val.cell? ⟨w.heap.size, o, none⟩ = (w.alloc (.cells #[.int .i64 s, .int .i64 a, .int .i64 bb, .int .i64 h, .int .i64 m] 23)).cell? ⟨w.heap.size, o, none⟩ := fun x o => x.cell (by simp)
  refine wp_region_later (Below.refl _ _) (by kernel_rfl) (by kernel_rfl) ?_
  repeat (go_big_quiet_step (first
    | (go_at_call 19; exact calls_later_same (pspeed_any _ _ _ (by omega)))
    | (go_at_call 22; exact calls_later (allow_any _ _ _ _ _ _ _))
    | (go_at_call 12; exact calls_later (awake_any _))))
  refine wpQuiet_nil ?_
  intro _ hw'
  obtain ⟨y, hw''⟩ := hw'
  subst hw''
  have hby := below_box y.ok
  clear hl
  go_wp2
  go_ret
  exact ⟨rfl, hby⟩
set_option maxHeartbeats 4000000 in
theorem walk_B2_T1 (v b g s a bb h m : Int) (hg63 : g ≤ 9223372036854775807) (hv1 : 1 ≤ v) (hv2 : 4096 < v) (hb1 : 1 ≤ b) (hb2 : b ≤ 4096) (hg1 : g < 0)   (w : World) : Calls Try.prog 7 #[.int .i64 v, .int .i64 b, .int .i64 g, lim s a bb h m] w fun e w' => e = .returned (.bool true) ∧ Below w.heap.size w w' := by
  go_enter Try.func7, Try.ntmps7
  go_wp2_with (first
    | (go_at_call 15; refine (distance_any _ _ _).mono ?_; rintro e w' ⟨rfl, rfl⟩)
    | (go_at_call 17; refine (ticks_any _ _ _).mono ?_; rintro e w' ⟨rfl, rfl⟩)
    | (go_at_call 19; refine (pspeed_any _ _ _ hg63).mono ?_; rintro e w' ⟨rfl, rfl⟩)
    | (go_at_call 12; refine (awake_any _).mono ?_; rintro e w2 ⟨rfl, hb⟩))
  go_ret
  exact ⟨rfl, below_box hb⟩
set_option maxHeartbeats 4000000 in
theorem walk_B2_T2 (v b g s a bb h m : Int) (hg63 : g ≤ 9223372036854775807) (hv1 : 1 ≤ v) (hv2 : 4096 < v) (hb1 : 1 ≤ b) (hb2 : b ≤ 4096) (hg1 : 0 ≤ g) (hg2 : 1152921504606846976 < g)   (w : World) : Calls Try.prog 7 #[.int .i64 v, .int .i64 b, .int .i64 g, lim s a bb h m] w fun e w' => e = .returned (.bool true) ∧ Below w.heap.size w w' := by
  go_enter Try.func7, Try.ntmps7
  go_wp2_with (first
    | (go_at_call 15; refine (distance_any _ _ _).mono ?_; rintro e w' ⟨rfl, rfl⟩)
    | (go_at_call 17; refine (ticks_any _ _ _).mono ?_; rintro e w' ⟨rfl, rfl⟩)
    | (go_at_call 19; refine (pspeed_any _ _ _ hg63).mono ?_; rintro e w' ⟨rfl, rfl⟩)
    | (go_at_call 12; refine (awake_any _).mono ?_; rintro e w2 ⟨rfl, hb⟩))
  go_ret
  exact ⟨rfl, below_box hb⟩
set_option maxHeartbeats 4000000 in
theorem walk_B2_T3 (v b g s a bb h m : Int) (hg63 : g ≤ 9223372036854775807) (hv1 : 1 ≤ v) (hv2 : 4096 < v) (hb1 : 1 ≤ b) (hb2 : b ≤ 4096) (hg1 : 0 ≤ g) (hg2 : g ≤ 1152921504606846976)  (S E E2 S2 R R2 : Int) (es : spdF g b = S) (es1 : 0 ≤ S) (es2 : S < 4096) (ed : wayF S b = E) (ed1 : E ≤ g) (ee : wayF (S + 1) b = E2) (ee1 : g < E2) (er : spdF (g + 1) b = S2) (er1 : S ≤ S2) (ea : allowF g s a bb h m = R) (ea2 : allowF (g + 1) s a bb h m = R2) (eR : R ≤ R2) (w : World) : Calls Try.prog 7 #[.int .i64 v, .int .i64 b, .int .i64 g, lim s a bb h m] w fun e w' => e = .returned (.bool true) ∧ Below w.heap.size w w' := by
  go_enter Try.func7, Try.ntmps7
  go_wp2_with (first
    | (go_at_call 15; refine (distance_any _ _ _).mono ?_; rintro e w' ⟨rfl, rfl⟩)
    | (go_at_call 17; refine (ticks_any _ _ _).mono ?_; rintro e w' ⟨rfl, rfl⟩)
    | (go_at_call 19; refine (pspeed_any _ _ _ hg63).mono ?_; rintro e w' ⟨rfl, rfl⟩)
    | (go_at_call 12; refine (awake_any _).mono ?_; rintro e w2 ⟨rfl, hb⟩))
  have hl : ∀ (x : Later (w.alloc (.cells #[.int .i64 s, .int .i64 a, .int .i64 bb, .int .i64 h, .int .i64 m] 23))) (o : Nat), x.val.cell? ⟨w.heap.size, o, none⟩ = (w.alloc (.cells #[.int .i64 s, .int .i64 a, .int .i64 bb, .int .i64 h, .int .i64 m] 23)).cell? ⟨w.heap.size, o, none⟩ := fun x o => x.cell (by simp)
  refine wp_region_later (Below.refl _ _) (by kernel_rfl) (by kernel_rfl) ?_
  repeat (go_big_quiet_step (first
    | (go_at_call 19; exact calls_later_same (pspeed_any _ _ _ (by omega)))
    | (go_at_call 22; exact calls_later (allow_any _ _ _ _ _ _ _))
    | (go_at_call 12; exact calls_later (awake_any _))))
  refine wpQuiet_nil ?_
  intro _ hw'
  obtain ⟨y, hw''⟩ := hw'
  subst hw''
  have hby := below_box y.ok
  clear hl
  go_wp2
  go_ret
  exact ⟨rfl, hby⟩
set_option maxHeartbeats 4000000 in
theorem walk_B2_T4 (v b g s a bb h m : Int) (hg63 : g ≤ 9223372036854775807) (hv1 : 1 ≤ v) (hv2 : 4096 < v) (hb1 : 1 ≤ b) (hb2 : b ≤ 4096) (hg1 : 0 ≤ g) (hg2 : g ≤ 1152921504606846976)  (S E S2 R R2 : Int) (es : spdF g b = S) (es1 : S = 4096) (ed : wayF S b = E) (ed1 : E ≤ g) (er : spdF (g + 1) b = S2) (er1 : S ≤ S2) (ea : allowF g s a bb h m = R) (ea2 : allowF (g + 1) s a bb h m = R2) (eR : R ≤ R2) (w : World) : Calls Try.prog 7 #[.int .i64 v, .int .i64 b, .int .i64 g, lim s a bb h m] w fun e w' => e = .returned (.bool true) ∧ Below w.heap.size w w' := by
  subst es1
  go_enter Try.func7, Try.ntmps7
  go_wp2_with (first
    | (go_at_call 15; refine (distance_any _ _ _).mono ?_; rintro e w' ⟨rfl, rfl⟩)
    | (go_at_call 17; refine (ticks_any _ _ _).mono ?_; rintro e w' ⟨rfl, rfl⟩)
    | (go_at_call 19; refine (pspeed_any _ _ _ hg63).mono ?_; rintro e w' ⟨rfl, rfl⟩)
    | (go_at_call 12; refine (awake_any _).mono ?_; rintro e w2 ⟨rfl, hb⟩))
  have hl : ∀ (x : Later (w.alloc (.cells #[.int .i64 s, .int .i64 a, .int .i64 bb, .int .i64 h, .int .i64 m] 23))) (o : Nat), x.val.cell? ⟨w.heap.size, o, none⟩ = (w.alloc (.cells #[.int .i64 s, .int .i64 a, .int .i64 bb, .int .i64 h, .int .i64 m] 23)).cell? ⟨w.heap.size, o, none⟩ := fun x o => x.cell (by simp)
  refine wp_region_later (Below.refl _ _) (by kernel_rfl) (by kernel_rfl) ?_
  repeat (go_big_quiet_step (first
    | (go_at_call 19; exact calls_later_same (pspeed_any _ _ _ (by omega)))
    | (go_at_call 22; exact calls_later (allow_any _ _ _ _ _ _ _))
    | (go_at_call 12; exact calls_later (awake_any _))))
  refine wpQuiet_nil ?_
  intro _ hw'
  obtain ⟨y, hw''⟩ := hw'
  subst hw''
  have hby := below_box y.ok
  clear hl
  go_wp2
  go_ret
  exact ⟨rfl, hby⟩
set_option maxHeartbeats 4000000 in
theorem walk_B3 (v b g s a bb h m : Int) (hg63 : g ≤ 9223372036854775807) (hb1 : b < 1) (w : World) : Calls Try.prog 7 #[.int .i64 v, .int .i64 b, .int .i64 g, lim s a bb h m] w fun e w' => e = .returned (.bool true) ∧ Below w.heap.size w w' := by
  by_cases hv1 : v < 1
  · by_cases hg1 : g < 0
    · go_enter Try.func7, Try.ntmps7
      go_wp2_with (first
        | (go_at_call 15; refine (distance_any _ _ _).mono ?_; rintro e w' ⟨rfl, rfl⟩)
        | (go_at_call 17; refine (ticks_any _ _ _).mono ?_; rintro e w' ⟨rfl, rfl⟩)
        | (go_at_call 19; refine (pspeed_any _ _ _ hg63).mono ?_; rintro e w' ⟨rfl, rfl⟩)
        | (go_at_call 12; refine (awake_any _).mono ?_; rintro e w2 ⟨rfl, hb⟩))
      go_ret
      exact ⟨rfl, below_box hb⟩
    by_cases hg2 : 1152921504606846976 < g
    · go_enter Try.func7, Try.ntmps7
      go_wp2_with (first
        | (go_at_call 15; refine (distance_any _ _ _).mono ?_; rintro e w' ⟨rfl, rfl⟩)
        | (go_at_call 17; refine (ticks_any _ _ _).mono ?_; rintro e w' ⟨rfl, rfl⟩)
        | (go_at_call 19; refine (pspeed_any _ _ _ hg63).mono ?_; rintro e w' ⟨rfl, rfl⟩)
        | (go_at_call 12; refine (awake_any _).mono ?_; rintro e w2 ⟨rfl, hb⟩))
      go_ret
      exact ⟨rfl, below_box hb⟩
    · go_enter Try.func7, Try.ntmps7
      go_wp2_with (first
        | (go_at_call 15; refine (distance_any _ _ _).mono ?_; rintro e w' ⟨rfl, rfl⟩)
        | (go_at_call 17; refine (ticks_any _ _ _).mono ?_; rintro e w' ⟨rfl, rfl⟩)
        | (go_at_call 19; refine (pspeed_any _ _ _ hg63).mono ?_; rintro e w' ⟨rfl, rfl⟩)
        | (go_at_call 12; refine (awake_any _).mono ?_; rintro e w2 ⟨rfl, hb⟩))
      go_ret
      exact ⟨rfl, below_box hb⟩
  by_cases hv2 : v ≤ 4096
  · by_cases hg1 : g < 0
    · go_enter Try.func7, Try.ntmps7
      go_wp2_with (first
        | (go_at_call 15; refine (distance_any _ _ _).mono ?_; rintro e w' ⟨rfl, rfl⟩)
        | (go_at_call 17; refine (ticks_any _ _ _).mono ?_; rintro e w' ⟨rfl, rfl⟩)
        | (go_at_call 19; refine (pspeed_any _ _ _ hg63).mono ?_; rintro e w' ⟨rfl, rfl⟩)
        | (go_at_call 12; refine (awake_any _).mono ?_; rintro e w2 ⟨rfl, hb⟩))
      go_ret
      exact ⟨rfl, below_box hb⟩
    by_cases hg2 : 1152921504606846976 < g
    · go_enter Try.func7, Try.ntmps7
      go_wp2_with (first
        | (go_at_call 15; refine (distance_any _ _ _).mono ?_; rintro e w' ⟨rfl, rfl⟩)
        | (go_at_call 17; refine (ticks_any _ _ _).mono ?_; rintro e w' ⟨rfl, rfl⟩)
        | (go_at_call 19; refine (pspeed_any _ _ _ hg63).mono ?_; rintro e w' ⟨rfl, rfl⟩)
        | (go_at_call 12; refine (awake_any _).mono ?_; rintro e w2 ⟨rfl, hb⟩))
      go_ret
      exact ⟨rfl, below_box hb⟩
    · go_enter Try.func7, Try.ntmps7
      go_wp2_with (first
        | (go_at_call 15; refine (distance_any _ _ _).mono ?_; rintro e w' ⟨rfl, rfl⟩)
        | (go_at_call 17; refine (ticks_any _ _ _).mono ?_; rintro e w' ⟨rfl, rfl⟩)
        | (go_at_call 19; refine (pspeed_any _ _ _ hg63).mono ?_; rintro e w' ⟨rfl, rfl⟩)
        | (go_at_call 12; refine (awake_any _).mono ?_; rintro e w2 ⟨rfl, hb⟩))
      go_ret
      exact ⟨rfl, below_box hb⟩
  · by_cases hg1 : g < 0
    · go_enter Try.func7, Try.ntmps7
      go_wp2_with (first
        | (go_at_call 15; refine (distance_any _ _ _).mono ?_; rintro e w' ⟨rfl, rfl⟩)
        | (go_at_call 17; refine (ticks_any _ _ _).mono ?_; rintro e w' ⟨rfl, rfl⟩)
        | (go_at_call 19; refine (pspeed_any _ _ _ hg63).mono ?_; rintro e w' ⟨rfl, rfl⟩)
        | (go_at_call 12; refine (awake_any _).mono ?_; rintro e w2 ⟨rfl, hb⟩))
      go_ret
      exact ⟨rfl, below_box hb⟩
    by_cases hg2 : 1152921504606846976 < g
    · go_enter Try.func7, Try.ntmps7
      go_wp2_with (first
        | (go_at_call 15; refine (distance_any _ _ _).mono ?_; rintro e w' ⟨rfl, rfl⟩)
        | (go_at_call 17; refine (ticks_any _ _ _).mono ?_; rintro e w' ⟨rfl, rfl⟩)
        | (go_at_call 19; refine (pspeed_any _ _ _ hg63).mono ?_; rintro e w' ⟨rfl, rfl⟩)
        | (go_at_call 12; refine (awake_any _).mono ?_; rintro e w2 ⟨rfl, hb⟩))
      go_ret
      exact ⟨rfl, below_box hb⟩
    · go_enter Try.func7, Try.ntmps7
      go_wp2_with (first
        | (go_at_call 15; refine (distance_any _ _ _).mono ?_; rintro e w' ⟨rfl, rfl⟩)
        | (go_at_call 17; refine (ticks_any _ _ _).mono ?_; rintro e w' ⟨rfl, rfl⟩)
        | (go_at_call 19; refine (pspeed_any _ _ _ hg63).mono ?_; rintro e w' ⟨rfl, rfl⟩)
        | (go_at_call 12; refine (awake_any _).mono ?_; rintro e w2 ⟨rfl, hb⟩))
      go_ret
      exact ⟨rfl, below_box hb⟩
set_option maxHeartbeats 4000000 in
theorem walk_B4 (v b g s a bb h m : Int) (hg63 : g ≤ 9223372036854775807) (hb1 : 1 ≤ b) (hb2 : 4096 < b) (w : World) : Calls Try.prog 7 #[.int .i64 v, .int .i64 b, .int .i64 g, lim s a bb h m] w fun e w' => e = .returned (.bool true) ∧ Below w.heap.size w w' := by
  by_cases hv1 : v < 1
  · by_cases hg1 : g < 0
    · go_enter Try.func7, Try.ntmps7
      go_wp2_with (first
        | (go_at_call 15; refine (distance_any _ _ _).mono ?_; rintro e w' ⟨rfl, rfl⟩)
        | (go_at_call 17; refine (ticks_any _ _ _).mono ?_; rintro e w' ⟨rfl, rfl⟩)
        | (go_at_call 19; refine (pspeed_any _ _ _ hg63).mono ?_; rintro e w' ⟨rfl, rfl⟩)
        | (go_at_call 12; refine (awake_any _).mono ?_; rintro e w2 ⟨rfl, hb⟩))
      go_ret
      exact ⟨rfl, below_box hb⟩
    by_cases hg2 : 1152921504606846976 < g
    · go_enter Try.func7, Try.ntmps7
      go_wp2_with (first
        | (go_at_call 15; refine (distance_any _ _ _).mono ?_; rintro e w' ⟨rfl, rfl⟩)
        | (go_at_call 17; refine (ticks_any _ _ _).mono ?_; rintro e w' ⟨rfl, rfl⟩)
        | (go_at_call 19; refine (pspeed_any _ _ _ hg63).mono ?_; rintro e w' ⟨rfl, rfl⟩)
        | (go_at_call 12; refine (awake_any _).mono ?_; rintro e w2 ⟨rfl, hb⟩))
      go_ret
      exact ⟨rfl, below_box hb⟩
    · go_enter Try.func7, Try.ntmps7
      go_wp2_with (first
        | (go_at_call 15; refine (distance_any _ _ _).mono ?_; rintro e w' ⟨rfl, rfl⟩)
        | (go_at_call 17; refine (ticks_any _ _ _).mono ?_; rintro e w' ⟨rfl, rfl⟩)
        | (go_at_call 19; refine (pspeed_any _ _ _ hg63).mono ?_; rintro e w' ⟨rfl, rfl⟩)
        | (go_at_call 12; refine (awake_any _).mono ?_; rintro e w2 ⟨rfl, hb⟩))
      go_ret
      exact ⟨rfl, below_box hb⟩
  by_cases hv2 : v ≤ 4096
  · by_cases hg1 : g < 0
    · go_enter Try.func7, Try.ntmps7
      go_wp2_with (first
        | (go_at_call 15; refine (distance_any _ _ _).mono ?_; rintro e w' ⟨rfl, rfl⟩)
        | (go_at_call 17; refine (ticks_any _ _ _).mono ?_; rintro e w' ⟨rfl, rfl⟩)
        | (go_at_call 19; refine (pspeed_any _ _ _ hg63).mono ?_; rintro e w' ⟨rfl, rfl⟩)
        | (go_at_call 12; refine (awake_any _).mono ?_; rintro e w2 ⟨rfl, hb⟩))
      go_ret
      exact ⟨rfl, below_box hb⟩
    by_cases hg2 : 1152921504606846976 < g
    · go_enter Try.func7, Try.ntmps7
      go_wp2_with (first
        | (go_at_call 15; refine (distance_any _ _ _).mono ?_; rintro e w' ⟨rfl, rfl⟩)
        | (go_at_call 17; refine (ticks_any _ _ _).mono ?_; rintro e w' ⟨rfl, rfl⟩)
        | (go_at_call 19; refine (pspeed_any _ _ _ hg63).mono ?_; rintro e w' ⟨rfl, rfl⟩)
        | (go_at_call 12; refine (awake_any _).mono ?_; rintro e w2 ⟨rfl, hb⟩))
      go_ret
      exact ⟨rfl, below_box hb⟩
    · go_enter Try.func7, Try.ntmps7
      go_wp2_with (first
        | (go_at_call 15; refine (distance_any _ _ _).mono ?_; rintro e w' ⟨rfl, rfl⟩)
        | (go_at_call 17; refine (ticks_any _ _ _).mono ?_; rintro e w' ⟨rfl, rfl⟩)
        | (go_at_call 19; refine (pspeed_any _ _ _ hg63).mono ?_; rintro e w' ⟨rfl, rfl⟩)
        | (go_at_call 12; refine (awake_any _).mono ?_; rintro e w2 ⟨rfl, hb⟩))
      go_ret
      exact ⟨rfl, below_box hb⟩
  · by_cases hg1 : g < 0
    · go_enter Try.func7, Try.ntmps7
      go_wp2_with (first
        | (go_at_call 15; refine (distance_any _ _ _).mono ?_; rintro e w' ⟨rfl, rfl⟩)
        | (go_at_call 17; refine (ticks_any _ _ _).mono ?_; rintro e w' ⟨rfl, rfl⟩)
        | (go_at_call 19; refine (pspeed_any _ _ _ hg63).mono ?_; rintro e w' ⟨rfl, rfl⟩)
        | (go_at_call 12; refine (awake_any _).mono ?_; rintro e w2 ⟨rfl, hb⟩))
      go_ret
      exact ⟨rfl, below_box hb⟩
    by_cases hg2 : 1152921504606846976 < g
    · go_enter Try.func7, Try.ntmps7
      go_wp2_with (first
        | (go_at_call 15; refine (distance_any _ _ _).mono ?_; rintro e w' ⟨rfl, rfl⟩)
        | (go_at_call 17; refine (ticks_any _ _ _).mono ?_; rintro e w' ⟨rfl, rfl⟩)
        | (go_at_call 19; refine (pspeed_any _ _ _ hg63).mono ?_; rintro e w' ⟨rfl, rfl⟩)
        | (go_at_call 12; refine (awake_any _).mono ?_; rintro e w2 ⟨rfl, hb⟩))
      go_ret
      exact ⟨rfl, below_box hb⟩
    · go_enter Try.func7, Try.ntmps7
      go_wp2_with (first
        | (go_at_call 15; refine (distance_any _ _ _).mono ?_; rintro e w' ⟨rfl, rfl⟩)
        | (go_at_call 17; refine (ticks_any _ _ _).mono ?_; rintro e w' ⟨rfl, rfl⟩)
        | (go_at_call 19; refine (pspeed_any _ _ _ hg63).mono ?_; rintro e w' ⟨rfl, rfl⟩)
        | (go_at_call 12; refine (awake_any _).mono ?_; rintro e w2 ⟨rfl, hb⟩))
      go_ret
      exact ⟨rfl, below_box hb⟩

end Go.Proofs.Ytanaficinidffaa.brakingMonotone
