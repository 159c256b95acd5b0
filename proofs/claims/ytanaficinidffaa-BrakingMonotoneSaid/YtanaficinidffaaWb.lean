import Derived.Test.YtanaficinidffaaWa
namespace Go.Proofs.Ytanaficinidffaa
open Go.RowKit

abbrev lim (s a b h m : Int) : Value := .agg #[.int .i64 s, .int .i64 a, .int .i64 b, .int .i64 h, .int .i64 m]

set_option maxHeartbeats 1000000 in
theorem valid_any (s a b h m : Int) (w : World) : Calls Try.prog 26 #[lim s a b h m] w fun e w' => e = .returned (.bool (vld s a b h m)) ∧ Below w.heap.size w w' := by
  go_enter Try.func26, Try.ntmps26
  go_wp2_with (go_at_call 25; refine (in_any _ _ _ _).mono ?_; rintro e w' ⟨rfl, rfl⟩)
  all_goals (go_ret; refine ⟨by simp [vld, *], ?_⟩; go_grown)

theorem speed_any (n : Int) (w : World) : Calls Try.prog 27 #[.int .i64 n] w fun e w' => e = .returned (.bool (inB n 0 4096)) ∧ w = w' := by
  go_enter Try.func27, Try.ntmps27
  go_wp2
  all_goals (go_ret; refine ⟨by simp [inB, *] <;> (intros; omega), rfl⟩)
theorem dec_any (n : Int) (w : World) : Calls Try.prog 28 #[.int .i64 n] w fun e w' => e = .returned (.bool (inB n 1 4096)) ∧ w = w' := by
  go_enter Try.func28, Try.ntmps28
  go_wp2
  all_goals (go_ret; refine ⟨by simp [inB, *] <;> (intros; omega), rfl⟩)

set_option maxHeartbeats 1000000 in
theorem rvalid_any (s a b h m : Int) (w : World) : Calls Try.prog 13 #[lim s a b h m] w fun e w' => e = .returned (.bool (vld s a b h m)) ∧ Below w.heap.size w w' := by
  go_enter Try.func13, Try.ntmps13
  go_wp2
  all_goals (go_ret; refine ⟨by simp [vld, inB, *] <;> (intros; omega), ?_⟩; go_grown)

theorem ticks_any (v b : Int) (w : World) : Calls Try.prog 17 #[.int .i64 v, .int .i64 b] w fun e w' => e = .returned (.int .i64 (tckF v b)) ∧ w = w' := by
  by_cases h1 : 0 ≤ v ∧ v ≤ 4096
  · obtain ⟨h1, h1'⟩ := h1
    have e1 := inB_true h1 h1'
    by_cases h2 : 1 ≤ b ∧ b ≤ 4096
    · obtain ⟨h2, h2'⟩ := h2
      have e2 := inB_true h2 h2'
      go_enter Try.func17, Try.ntmps17
      go_wp2_with (go_at_call 25; refine (in_any _ _ _ _).mono ?_; rintro e w' ⟨rfl, rfl⟩)
      go_ret
      exact ⟨ret_int (by simp [tckF, e1, e2, tck]), rfl⟩
    · have e2 := inB_false h2
      go_enter Try.func17, Try.ntmps17
      go_wp2_with (go_at_call 25; refine (in_any _ _ _ _).mono ?_; rintro e w' ⟨rfl, rfl⟩)
      go_ret
      exact ⟨ret_int (by simp [tckF, e2]), rfl⟩
  · have e1 := inB_false h1
    go_enter Try.func17, Try.ntmps17
    go_wp2_with (go_at_call 25; refine (in_any _ _ _ _).mono ?_; rintro e w' ⟨rfl, rfl⟩)
    go_ret
    exact ⟨ret_int (by simp [tckF, e1]), rfl⟩

theorem rticks_any (v b : Int) (w : World) : Calls Try.prog 18 #[.int .i64 v, .int .i64 b] w fun e w' => e = .returned (.int .i64 (tckF v b)) ∧ w = w' := by
  by_cases h1 : 0 ≤ v ∧ v ≤ 4096
  · obtain ⟨h1, h1'⟩ := h1
    have e1 := inB_true h1 h1'
    by_cases h2 : 1 ≤ b ∧ b ≤ 4096
    · obtain ⟨h2, h2'⟩ := h2
      have e2 := inB_true h2 h2'
      go_enter Try.func18, Try.ntmps18
      go_wp2_with (first | (go_at_call 27; refine (speed_any _ _).mono ?_; rintro e w' ⟨rfl, rfl⟩) | (go_at_call 28; refine (dec_any _ _).mono ?_; rintro e w' ⟨rfl, rfl⟩))
      go_ret
      exact ⟨ret_int (by simp [tckF, e1, e2, tck]), rfl⟩
    · have e2 := inB_false h2
      go_enter Try.func18, Try.ntmps18
      go_wp2_with (first | (go_at_call 27; refine (speed_any _ _).mono ?_; rintro e w' ⟨rfl, rfl⟩) | (go_at_call 28; refine (dec_any _ _).mono ?_; rintro e w' ⟨rfl, rfl⟩))
      go_ret
      exact ⟨ret_int (by simp [tckF, e2]), rfl⟩
  · have e1 := inB_false h1
    go_enter Try.func18, Try.ntmps18
    go_wp2_with (first | (go_at_call 27; refine (speed_any _ _).mono ?_; rintro e w' ⟨rfl, rfl⟩) | (go_at_call 28; refine (dec_any _ _).mono ?_; rintro e w' ⟨rfl, rfl⟩))
    go_ret
    exact ⟨ret_int (by simp [tckF, e1]), rfl⟩

theorem mul_in {k t b v : Int} (hb : 1 ≤ b) (hk : 0 ≤ k) (hkt : k < t) (ht : t = tck v b) : 0 ≤ k * b ∧ k * b < v := by
  subst ht
  have := (tck_iff (v := v) (b := b) (k := k) hb).1 hkt
  exact ⟨Int.mul_nonneg hk (by omega), by omega⟩

set_option maxHeartbeats 1000000 in
theorem distance_any (v b : Int) (w : World) : Calls Try.prog 15 #[.int .i64 v, .int .i64 b] w fun e w' => e = .returned (.int .i64 (wayF v b)) ∧ w = w' := by
  by_cases h1 : 0 ≤ v ∧ v ≤ 4096
  · obtain ⟨h1, h1'⟩ := h1
    have e1 := inB_true h1 h1'
    by_cases h2 : 1 ≤ b ∧ b ≤ 4096
    · obtain ⟨h2, h2'⟩ := h2
      have e2 := inB_true h2 h2'
      have eT : tckF v b = tck v b := by simp [tckF, e1, e2]
      have hT := tck_bounds h1 h2
      generalize hT' : tck v b = T at hT
      rw [hT'] at eT
      have HT := hid hT'
      clear hT'
      go_enter Try.func15, Try.ntmps15
      go_wp2_with (first | (go_at_call 25; refine (in_any _ _ _ _).mono ?_; rintro e w' ⟨rfl, rfl⟩) | (go_at_call 17; refine (ticks_any _ _ _).mono ?_; rintro e w' ⟨rfl, rfl⟩))
      go_loop [5, 18] (fun x i => ∃ k : Nat, (k : Int) ≤ T ∧ i = .int .i64 k ∧ x = .int .i64 (sumD v b k)) (fun _ i => (T - intOf i).toNat)
      case atStart => exact ⟨0, hT.1, rfl, rfl⟩
      case round =>
        obtain ⟨k, hk, rfl, rfl⟩ := hrel
        have hs : 0 ≤ sumD v b k := sumD_nonneg v b h2 k (by rw [HT.out]; exact hk)
        have hs2 : sumD v b k ≤ v * k := sumD_le v b h1 h2 k
        have hs3 : v * k ≤ 4096 * 4096 := Int.mul_le_mul h1' (by omega) (by omega) (by omega)
        have hs4 : sumD v b k ≤ 16777216 := by omega
        clear hs2 hs3
        by_cases hlt : (k : Int) < T
        · have hm := mul_in h2 (by omega) hlt HT.out.symm
          obtain ⟨hm1, hm2⟩ := hm
          go_wp2
          go_round
          case rel => exact ⟨k + 1, by omega, by go_num, rfl⟩
          case measure => simp [intOf]; omega
        · go_wp2
          go_ret
          have : k = (tck v b).toNat := by rw [HT.out]; omega
          exact ⟨ret_int (by simp [wayF, e1, e2, way, this]), rfl⟩
    · have e2 := inB_false h2
      go_enter Try.func15, Try.ntmps15
      go_wp2_with (go_at_call 25; refine (in_any _ _ _ _).mono ?_; rintro e w' ⟨rfl, rfl⟩)
      go_ret
      exact ⟨ret_int (by simp [wayF, e2]), rfl⟩
  · have e1 := inB_false h1
    go_enter Try.func15, Try.ntmps15
    go_wp2_with (go_at_call 25; refine (in_any _ _ _ _).mono ?_; rintro e w' ⟨rfl, rfl⟩)
    go_ret
    exact ⟨ret_int (by simp [wayF, e1]), rfl⟩

end Go.Proofs.Ytanaficinidffaa
