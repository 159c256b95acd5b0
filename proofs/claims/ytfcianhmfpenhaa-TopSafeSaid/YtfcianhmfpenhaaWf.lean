/- Walks: package braking. -/
import Derived.Test.YtfcianhmfpenhaaWc
import Derived.Test.YtfcianhmfpenhaaBrk
namespace Go.Proofs.Ytfcianhmfpenhaa
open Go.RowKit
set_option linter.unusedVariables false
set_option linter.unusedSimpArgs false
namespace Bk
theorem in_any (n lo hi : Int) (w : World) : Calls Try.prog 47 #[.int .i64 n, .int .i64 lo, .int .i64 hi] w fun e w' => e = .returned (.bool (inB n lo hi)) ∧ w = w' := by
  by_cases h1 : lo ≤ n
  · by_cases h2 : n ≤ hi
    · have e : inB n lo hi = true := inB_true h1 h2
      go_enter Try.func47, Try.ntmps47
      go_wp2
      go_ret
      simp [e]
    · have e : inB n lo hi = false := inB_false (by omega)
      go_enter Try.func47, Try.ntmps47
      go_wp2
      go_ret
      simp
  · have e : inB n lo hi = false := inB_false (by omega)
    go_enter Try.func47, Try.ntmps47
    go_wp2
    go_ret
    simp

set_option maxHeartbeats 1000000 in
theorem valid_any (s a b h m : Int) (w : World) : Calls Try.prog 48 #[lim s a b h m] w fun e w' => e = .returned (.bool (vld s a b h m)) ∧ Below w.heap.size w w' := by
  go_enter Try.func48, Try.ntmps48
  go_wp2_with (go_at_call 47; refine (in_any _ _ _ _).mono ?_; rintro e w' ⟨rfl, rfl⟩)
  all_goals (go_ret; refine ⟨by simp [vld, *], ?_⟩; go_grown)

theorem ticks_any (v b : Int) (w : World) : Calls Try.prog 57 #[.int .i64 v, .int .i64 b] w fun e w' => e = .returned (.int .i64 (tckF v b)) ∧ w = w' := by
  by_cases h1 : 0 ≤ v ∧ v ≤ 4096
  · obtain ⟨h1, h1'⟩ := h1
    have e1 := inB_true h1 h1'
    by_cases h2 : 1 ≤ b ∧ b ≤ 4096
    · obtain ⟨h2, h2'⟩ := h2
      have e2 := inB_true h2 h2'
      go_enter Try.func57, Try.ntmps57
      go_wp2_with (go_at_call 47; refine (in_any _ _ _ _).mono ?_; rintro e w' ⟨rfl, rfl⟩)
      go_ret
      exact ⟨ret_int (by simp [tckF, e1, e2, tck]), rfl⟩
    · have e2 := inB_false h2
      go_enter Try.func57, Try.ntmps57
      go_wp2_with (go_at_call 47; refine (in_any _ _ _ _).mono ?_; rintro e w' ⟨rfl, rfl⟩)
      go_ret
      exact ⟨ret_int (by simp [tckF, e2]), rfl⟩
  · have e1 := inB_false h1
    go_enter Try.func57, Try.ntmps57
    go_wp2_with (go_at_call 47; refine (in_any _ _ _ _).mono ?_; rintro e w' ⟨rfl, rfl⟩)
    go_ret
    exact ⟨ret_int (by simp [tckF, e1]), rfl⟩

theorem mul_in {k t b v : Int} (hb : 1 ≤ b) (hk : 0 ≤ k) (hkt : k < t) (ht : t = tck v b) : 0 ≤ k * b ∧ k * b < v := by
  subst ht
  have := (tck_iff (v := v) (b := b) (k := k) hb).1 hkt
  exact ⟨Int.mul_nonneg hk (by omega), by omega⟩

set_option maxHeartbeats 1000000 in
theorem distance_any (v b : Int) (w : World) : Calls Try.prog 56 #[.int .i64 v, .int .i64 b] w fun e w' => e = .returned (.int .i64 (wayF v b)) ∧ w = w' := by
  by_cases h1 : 0 ≤ v ∧ v ≤ 4096
  · obtain ⟨h1, h1'⟩ := h1
    have e1 := inB_true h1 h1'
    by_cases h2 : 1 ≤ b ∧ b ≤ 4096
    · obtain ⟨h2, h2'⟩ := h2
      have e2 := inB_true h2 h2'
      have eT : tckF v b = tck v b := by simp [tckF, e1, e2]
      have hT := tck_bounds h1 h2
      generalize hT' : tck v b = T at hT
      rw [hT'] at eT
      have HT := hid hT'
      clear hT'
      go_enter Try.func56, Try.ntmps56
      go_wp2_with (first | (go_at_call 47; refine (in_any _ _ _ _).mono ?_; rintro e w' ⟨rfl, rfl⟩) | (go_at_call 57; refine (ticks_any _ _ _).mono ?_; rintro e w' ⟨rfl, rfl⟩))
      go_loop [5, 18] (fun x i => ∃ k : Nat, (k : Int) ≤ T ∧ i = .int .i64 k ∧ x = .int .i64 (sumD v b k)) (fun _ i => (T - intOf i).toNat)
      case atStart => exact ⟨0, hT.1, rfl, rfl⟩
      case round =>
        obtain ⟨k, hk, rfl, rfl⟩ := hrel
        have hs : 0 ≤ sumD v b k := sumD_nonneg v b h2 k (by rw [HT.out]; exact hk)
        have hs2 : sumD v b k ≤ v * k := sumD_le v b h1 h2 k
        have hs3 : v * k ≤ 4096 * 4096 := Int.mul_le_mul h1' (by omega) (by omega) (by omega)
        have hs4 : sumD v b k ≤ 16777216 := by omega
        clear hs2 hs3
        by_cases hlt : (k : Int) < T
        · have hm := mul_in h2 (by omega) hlt HT.out.symm
          obtain ⟨hm1, hm2⟩ := hm
          go_wp2
          go_round
          case rel => exact ⟨k + 1, by omega, by go_num, rfl⟩
          case measure => simp [intOf]; omega
        · go_wp2
          go_ret
          have : k = (tck v b).toNat := by rw [HT.out]; omega
          exact ⟨ret_int (by simp [wayF, e1, e2, way, this]), rfl⟩
    · have e2 := inB_false h2
      go_enter Try.func56, Try.ntmps56
      go_wp2_with (go_at_call 47; refine (in_any _ _ _ _).mono ?_; rintro e w' ⟨rfl, rfl⟩)
      go_ret
      exact ⟨ret_int (by simp [wayF, e2]), rfl⟩
  · have e1 := inB_false h1
    go_enter Try.func56, Try.ntmps56
    go_wp2_with (go_at_call 47; refine (in_any _ _ _ _).mono ?_; rintro e w' ⟨rfl, rfl⟩)
    go_ret
    exact ⟨ret_int (by simp [wayF, e1]), rfl⟩

set_option maxHeartbeats 1000000 in
theorem need_any (v s a b h m : Int) (w : World) : Calls Try.prog 49 #[.int .i64 v, lim s a b h m] w fun e w' => e = .returned (.int .i64 (needF v s a b h m)) ∧ Below w.heap.size w w' := by
  by_cases h1 : 0 ≤ v ∧ v ≤ 4096
  · have e1 := inB_true h1.1 h1.2
    cases e2 : vld s a b h m
    · go_enter Try.func49, Try.ntmps49
      go_wp2_with (first | (go_at_call 47; refine (in_any _ _ _ _).mono ?_; rintro e w' ⟨rfl, rfl⟩) | (go_at_call 48; refine (valid_any _ _ _ _ _ _).mono ?_; rintro e w' ⟨rfl, hb⟩))
      go_ret
      exact ⟨ret_int (by simp [needF, e2]), by first | exact below_box hb | go_grown⟩
    · obtain ⟨v1, v2, v3, v4, v5⟩ := vld_iff.1 e2
      obtain ⟨h0, h0'⟩ := h1
      have hb1 : 1 ≤ b := v3.1
      have hb2 : b ≤ 4096 := by omega
      have eb := inB_true hb1 hb2
      have eW : wayF v b = way v b := by simp [wayF, e1, eb]
      have eT : tckF v b = tck v b := by simp [tckF, e1, eb]
      have hw := way_le h0 h0' hb1
      have ht := tck_bounds h0 hb1
      have hp := mul_le_4096 (t := tck v b + 1) v4.1 v4.2 (by omega) (by omega)
      obtain ⟨hw1, hw2⟩ := hw
      obtain ⟨ht1, ht2⟩ := ht
      obtain ⟨hp1, hp2⟩ := hp
      obtain ⟨m1, m2⟩ := v5
      clear v1 v2 v3 v4 hb2
      go_enter Try.func49, Try.ntmps49
      go_wp2_with (first | (go_at_call 47; refine (in_any _ _ _ _).mono ?_; rintro e w' ⟨rfl, rfl⟩) | (go_at_call 48; refine (valid_any _ _ _ _ _ _).mono ?_; rintro e w' ⟨rfl, hb⟩))
      obtain ⟨hc, hf⟩ := bcell hb
      go_quiet (first | (go_at_call 56; exact Calls.quiet_of_same ((distance_any _ _ _).mono fun _ _ h => ⟨h.1, h.2.symm⟩)) | (go_at_call 57; exact Calls.quiet_of_same ((ticks_any _ _ _).mono fun _ _ h => ⟨h.1, h.2.symm⟩)))
      go_wp2
      go_ret
      exact ⟨ret_int (by simp [needF, e1, e2, need]), below_drewN (below_box hb) _⟩
  · have e1 := inB_false h1
    go_enter Try.func49, Try.ntmps49
    go_wp2_with (first | (go_at_call 47; refine (in_any _ _ _ _).mono ?_; rintro e w' ⟨rfl, rfl⟩) | (go_at_call 48; refine (valid_any _ _ _ _ _ _).mono ?_; rintro e w' ⟨rfl, hb⟩))
    go_ret
    exact ⟨ret_int (by simp [needF, e1]), by first | exact below_box hb | go_grown⟩

set_option maxHeartbeats 1000000 in
theorem safe_any (v g s a b h m : Int) (w : World) : Calls Try.prog 38 #[.int .i64 v, .int .i64 g, lim s a b h m] w fun e w' => e = .returned (.bool (safeF v g s a b h m)) ∧ Below w.heap.size w w' := by
  cases e1 : inB v 0 4096
  · go_enter Try.func38, Try.ntmps38
    go_wp2_with (go_at_call 47; refine (in_any _ _ _ _).mono ?_; rintro e w' ⟨rfl, rfl⟩)
    go_ret
    exact ⟨ret_bool (by simp [safeF, e1]), by go_grown⟩
  · cases e2 : vld s a b h m
    · go_enter Try.func38, Try.ntmps38
      go_wp2_with (first | (go_at_call 47; refine (in_any _ _ _ _).mono ?_; rintro e w' ⟨rfl, rfl⟩) | (go_at_call 48; refine (valid_any _ _ _ _ _ _).mono ?_; rintro e w' ⟨rfl, hb⟩; obtain ⟨hc, hf⟩ := bcell hb))
      go_ret
      exact ⟨ret_bool (by simp [safeF, e2]), below_box hb⟩
    · go_enter Try.func38, Try.ntmps38
      go_wp2_with (first | (go_at_call 47; refine (in_any _ _ _ _).mono ?_; rintro e w' ⟨rfl, rfl⟩) | (go_at_call 48; refine (valid_any _ _ _ _ _ _).mono ?_; rintro e w' ⟨rfl, hb⟩; obtain ⟨hc, hf⟩ := bcell hb) | (go_at_call 49; refine (need_any _ _ _ _ _ _ _).mono ?_; rintro e w'' ⟨rfl, hb2⟩))
      go_ret
      exact ⟨ret_bool (by simp [safeF, e1, e2]), below_then (below_box hb) hb2⟩

set_option maxHeartbeats 1000000 in
theorem allow_any (g s a b h m : Int) (w : World) : Calls Try.prog 27 #[.int .i64 g, lim s a b h m] w fun e w' => e = .returned (.int .i64 (allowF g s a b h m)) ∧ Below w.heap.size w w' := by
  cases e0 : safeF 0 g s a b h m
  · go_enter Try.func27, Try.ntmps27
    go_wp2_with (go_at_call 38; refine (safe_any _ _ _ _ _ _ _ _).mono ?_; rintro e w' ⟨rfl, hb⟩; obtain ⟨hc, hf⟩ := bcell hb)
    go_ret
    exact ⟨ret_int (by rw [allow_none e0]), below_box hb⟩
  · have hv := vld_iff.1 (safe_iff.1 e0).2.1
    obtain ⟨⟨hv1, hv2⟩, _⟩ := hv
    go_enter Try.func27, Try.ntmps27
    go_wp2_with (first | (go_at_call 38; refine (safe_any _ _ _ _ _ _ _ _).mono ?_; rintro e w' ⟨rfl, hb⟩; obtain ⟨hc, hf⟩ := bcell hb))
    go_quiet (fail)
    go_wp2
    have hB := below_drewN hb nq
    clear hc hf hb
    go_loopw [5, 6] (fun x y wr => ∃ lo hi : Int, 0 ≤ lo ∧ lo ≤ hi ∧ hi ≤ s ∧ x = .int .i64 lo ∧ y = .int .i64 hi ∧ Hid (safeF lo g s a b h m = true ∧ (hi < s → safeF (hi + 1) g s a b h m = false)) ∧
        Below (w.alloc (.cells #[.int .i64 s, .int .i64 a, .int .i64 b, .int .i64 h, .int .i64 m] 27)).heap.size (w.alloc (.cells #[.int .i64 s, .int .i64 a, .int .i64 b, .int .i64 h, .int .i64 m] 27)) wr) (fun x y _ => (intOf y - intOf x).toNat)
    case atStart => exact ⟨0, s, by omega, by omega, by omega, rfl, rfl, hid ⟨e0, fun h => by omega⟩, hB⟩
    case round =>
      clear hB
      obtain ⟨lo, hi, hlo, hlh, hhi, rfl, rfl, HH, hB⟩ := hrel
      obtain ⟨hc, hf⟩ := bcell hB
      by_cases hlt : lo < hi
      · generalize hmid : (lo + hi + 1) / 2 = mid
        have hm1 : lo < mid := by omega
        have hm2 : mid ≤ hi := by omega
        have HM := hid hmid
        clear hmid
        cases es : safeF mid g s a b h m
        · go_wp2_with fail
          rw [HM.out]
          go_wp2_with (go_at_call 38; refine (safe_any _ _ _ _ _ _ _ _).mono ?_; rintro e w' ⟨rfl, hb2⟩)
          go_roundw
          case rel => exact ⟨lo, mid - 1, by omega, by omega, by omega, rfl, rfl, hid ⟨HH.out.1, fun _ => by rw [show mid - 1 + 1 = mid from by omega]; exact es⟩, hB.trans (hb2.mono hB.size)⟩
          case measure => simp [intOf]; omega
        · go_wp2_with fail
          rw [HM.out]
          go_wp2_with (go_at_call 38; refine (safe_any _ _ _ _ _ _ _ _).mono ?_; rintro e w' ⟨rfl, hb2⟩)
          go_roundw
          case rel => exact ⟨mid, hi, by omega, by omega, by omega, rfl, rfl, hid ⟨es, HH.out.2⟩, hB.trans (hb2.mono hB.size)⟩
          case measure => simp [intOf]; omega
      · obtain rfl : hi = lo := by omega
        go_wp2
        go_ret
        exact ⟨ret_int (allow_unique e0 hlo hhi HH.out.1 HH.out.2), below_box hB⟩

end Bk
end Go.Proofs.Ytfcianhmfpenhaa
