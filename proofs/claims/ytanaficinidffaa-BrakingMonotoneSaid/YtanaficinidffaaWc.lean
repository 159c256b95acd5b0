import Derived.Test.YtanaficinidffaaWb
namespace Go.Proofs.Ytanaficinidffaa
open Go.RowKit

theorem max_le_iff0 (a : Int) : max a 0 = if 0 < a then a else 0 := by split <;> omega

set_option maxHeartbeats 1000000 in
theorem rdistance_any (v b : Int) (w : World) : Calls Try.prog 16 #[.int .i64 v, .int .i64 b] w fun e w' => e = .returned (.int .i64 (wayF v b)) ∧ w = w' := by
  by_cases h1 : 0 ≤ v ∧ v ≤ 4096
  · obtain ⟨h1, h1'⟩ := h1
    have e1 := inB_true h1 h1'
    by_cases h2 : 1 ≤ b ∧ b ≤ 4096
    · obtain ⟨h2, h2'⟩ := h2
      have e2 := inB_true h2 h2'
      have hT := tck_bounds h1 h2
      generalize hT' : tck v b = T at hT
      have HT := hid hT'
      clear hT'
      go_enter Try.func16, Try.ntmps16
      go_wp2_with (first | (go_at_call 27; refine (speed_any _ _).mono ?_; rintro e w' ⟨rfl, rfl⟩) | (go_at_call 28; refine (dec_any _ _).mono ?_; rintro e w' ⟨rfl, rfl⟩))
      go_loop [0, 5] (fun i x => ∃ (k : Nat) (u : Int), (k : Int) ≤ T ∧ Hid (u = v - k * b) ∧ i = .int .i64 u ∧ x = .int .i64 (sumD v b k)) (fun i _ => (intOf i).toNat)
      case atStart => exact ⟨0, v, hT.1, hid (by simp), rfl, rfl⟩
      case round =>
        obtain ⟨k, u, hk, hu, rfl, rfl⟩ := hrel
        have hs : 0 ≤ sumD v b k := sumD_nonneg v b h2 k (by rw [HT.out]; exact hk)
        have hs2 : sumD v b k ≤ v * k := sumD_le v b h1 h2 k
        have hs3 : v * k ≤ 4096 * 4096 := Int.mul_le_mul h1' (by omega) (by omega) (by omega)
        have hs4 : sumD v b k ≤ 16777216 := by omega
        clear hs2 hs3
        have hki := tck_iff (v := v) (b := b) (k := k) h2
        rw [HT.out, ← hu.out] at hki
        have hnn : 0 ≤ (k : Int) * b := Int.mul_nonneg (by omega) (by omega)
        have huv : u ≤ v := by have := hu.out; omega
        clear hnn
        by_cases hlt : 0 < u
        · have hlt' := hki.2 hlt
          clear hki
          go_wp2
          go_round
          case rel => exact ⟨k + 1, u - b, by omega, hid (by rw [hu.out]; push_cast; rw [Int.add_mul]; omega), rfl, by rw [hu.out]; rfl⟩
          case measure => simp [intOf]; omega
        · have hge : T ≤ k := by
            rcases Int.lt_or_le (k : Int) T with h | h
            · exact absurd (hki.1 h) hlt
            · exact h
          clear hki
          go_wp2
          go_ret
          have : k = (tck v b).toNat := by rw [HT.out]; omega
          exact ⟨ret_int (by simp [wayF, e1, e2, way, this]), rfl⟩
    · have e2 := inB_false h2
      go_enter Try.func16, Try.ntmps16
      go_wp2_with (first | (go_at_call 27; refine (speed_any _ _).mono ?_; rintro e w' ⟨rfl, rfl⟩) | (go_at_call 28; refine (dec_any _ _).mono ?_; rintro e w' ⟨rfl, rfl⟩))
      go_ret
      exact ⟨ret_int (by simp [wayF, e2]), rfl⟩
  · have e1 := inB_false h1
    go_enter Try.func16, Try.ntmps16
    go_wp2_with (first | (go_at_call 27; refine (speed_any _ _).mono ?_; rintro e w' ⟨rfl, rfl⟩) | (go_at_call 28; refine (dec_any _ _).mono ?_; rintro e w' ⟨rfl, rfl⟩))
    go_ret
    exact ⟨ret_int (by simp [wayF, e1]), rfl⟩

set_option maxHeartbeats 1000000 in
theorem pspeed_any (g b : Int) (w : World) (hg : g ≤ 9223372036854775807) : Calls Try.prog 19 #[.int .i64 g, .int .i64 b] w fun e w' => e = .returned (.int .i64 (spdF g b)) ∧ w = w' := by
  by_cases h1 : 0 ≤ g
  · by_cases h2 : 1 ≤ b ∧ b ≤ 4096
    · obtain ⟨h2, h2'⟩ := h2
      have e2 := inB_true h2 h2'
      go_enter Try.func19, Try.ntmps19
      go_wp2_with (go_at_call 25; refine (in_any _ _ _ _).mono ?_; rintro e w' ⟨rfl, rfl⟩)
      go_loop [5, 6] (fun x y => ∃ lo hi : Int, 0 ≤ lo ∧ lo ≤ hi ∧ hi ≤ 4096 ∧ x = .int .i64 lo ∧ y = .int .i64 hi ∧ Hid (way lo b ≤ g ∧ (hi < 4096 → g < way (hi + 1) b))) (fun x y => (intOf y - intOf x).toNat)
      case atStart => exact ⟨0, 4096, by omega, by omega, by omega, rfl, rfl, hid ⟨by rw [way_zero h2]; exact h1, fun h => by omega⟩⟩
      case round =>
        obtain ⟨lo, hi, hlo, hlh, hhi, rfl, rfl, HH⟩ := hrel
        by_cases hlt : lo < hi
        · generalize hmid : (lo + hi + 1) / 2 = mid
          have hm1 : lo < mid := by omega
          have hm2 : mid ≤ hi := by omega
          have hm3 : 0 ≤ mid := by omega
          have hm4 : mid ≤ 4096 := by omega
          have eW : wayF mid b = way mid b := by simp [wayF, inB_true hm3 hm4, e2]
          have hwb := way_le hm3 hm4 h2
          have HM := hid hmid
          have HW := hid eW
          clear hmid eW
          by_cases hle : way mid b ≤ g
          · have htest : wayF mid b ≤ g := by rw [HW.out]; exact hle
            go_wp2_with fail
            rw [HM.out]
            go_wp2_with (go_at_call 15; refine (distance_any _ _ _).mono ?_; rintro e w' ⟨rfl, rfl⟩)
            go_round
            case rel => exact ⟨mid, hi, by omega, by omega, by omega, rfl, rfl, hid ⟨hle, HH.out.2⟩⟩
            case measure => simp [intOf]; omega
          · have htest : g < wayF mid b := by rw [HW.out]; omega
            go_wp2_with fail
            rw [HM.out]
            go_wp2_with (go_at_call 15; refine (distance_any _ _ _).mono ?_; rintro e w' ⟨rfl, rfl⟩)
            go_round
            case rel => exact ⟨lo, mid - 1, by omega, by omega, by omega, rfl, rfl, hid ⟨HH.out.1, fun _ => by rw [show mid - 1 + 1 = mid from by omega]; omega⟩⟩
            case measure => simp [intOf]; omega
        · obtain rfl : hi = lo := by omega
          go_wp2
          go_ret
          exact ⟨ret_int (by simp only [spdF, e2, h1, decide_true, Bool.and_true, if_true]; exact spd_unique h2 hlo hhi HH.out.1 HH.out.2), rfl⟩
    · have e2 := inB_false h2
      go_enter Try.func19, Try.ntmps19
      go_wp2_with (go_at_call 25; refine (in_any _ _ _ _).mono ?_; rintro e w' ⟨rfl, rfl⟩)
      go_ret
      exact ⟨ret_int (by simp [spdF, e2]), rfl⟩
  · have h1' : g < 0 := by omega
    have e1 : decide (0 ≤ g) = false := by simpa using h1'
    clear h1
    go_enter Try.func19, Try.ntmps19
    go_wp2_with (go_at_call 25; refine (in_any _ _ _ _).mono ?_; rintro e w' ⟨rfl, rfl⟩)
    go_ret
    exact ⟨ret_int (by simp only [spdF, e1]; rfl), rfl⟩

set_option maxHeartbeats 1000000 in
theorem rspeed_any (g b : Int) (w : World) (hg : g ≤ 9223372036854775807) : Calls Try.prog 20 #[.int .i64 g, .int .i64 b] w fun e w' => e = .returned (.int .i64 (spdF g b)) ∧ w = w' := by
  by_cases h1 : 0 ≤ g
  · by_cases h2 : 1 ≤ b ∧ b ≤ 4096
    · obtain ⟨h2, h2'⟩ := h2
      have e2 := inB_true h2 h2'
      go_enter Try.func20, Try.ntmps20
      go_wp2_with (first | (go_at_call 27; refine (speed_any _ _).mono ?_; rintro e w' ⟨rfl, rfl⟩) | (go_at_call 28; refine (dec_any _ _).mono ?_; rintro e w' ⟨rfl, rfl⟩))
      go_loop [5, 6] (fun x y => ∃ lo hi : Int, 0 ≤ lo ∧ lo ≤ hi ∧ hi ≤ 4096 ∧ x = .int .i64 lo ∧ y = .int .i64 hi ∧ Hid (way lo b ≤ g ∧ (hi < 4096 → g < way (hi + 1) b))) (fun x y => (intOf y - intOf x).toNat)
      case atStart => exact ⟨0, 4096, by omega, by omega, by omega, rfl, rfl, hid ⟨by rw [way_zero h2]; exact h1, fun h => by omega⟩⟩
      case round =>
        obtain ⟨lo, hi, hlo, hlh, hhi, rfl, rfl, HH⟩ := hrel
        by_cases hlt : lo < hi
        · generalize hmid : (lo + hi + 1) / 2 = mid
          have hm1 : lo < mid := by omega
          have hm2 : mid ≤ hi := by omega
          have hm3 : 0 ≤ mid := by omega
          have hm4 : mid ≤ 4096 := by omega
          have eW : wayF mid b = way mid b := by simp [wayF, inB_true hm3 hm4, e2]
          have hwb := way_le hm3 hm4 h2
          have HM := hid hmid
          have HW := hid eW
          clear hmid eW
          by_cases hle : way mid b ≤ g
          · have htest : wayF mid b ≤ g := by rw [HW.out]; exact hle
            go_wp2_with fail
            rw [HM.out]
            go_wp2_with (go_at_call 16; refine (rdistance_any _ _ _).mono ?_; rintro e w' ⟨rfl, rfl⟩)
            go_round
            case rel => exact ⟨mid, hi, by omega, by omega, by omega, rfl, rfl, hid ⟨hle, HH.out.2⟩⟩
            case measure => simp [intOf]; omega
          · have htest : g < wayF mid b := by rw [HW.out]; omega
            go_wp2_with fail
            rw [HM.out]
            go_wp2_with (go_at_call 16; refine (rdistance_any _ _ _).mono ?_; rintro e w' ⟨rfl, rfl⟩)
            go_round
            case rel => exact ⟨lo, mid - 1, by omega, by omega, by omega, rfl, rfl, hid ⟨HH.out.1, fun _ => by rw [show mid - 1 + 1 = mid from by omega]; omega⟩⟩
            case measure => simp [intOf]; omega
        · obtain rfl : hi = lo := by omega
          go_wp2
          go_ret
          exact ⟨ret_int (by simp only [spdF, e2, h1, decide_true, Bool.and_true, if_true]; exact spd_unique h2 hlo hhi HH.out.1 HH.out.2), rfl⟩
    · have e2 := inB_false h2
      go_enter Try.func20, Try.ntmps20
      go_wp2_with (first | (go_at_call 27; refine (speed_any _ _).mono ?_; rintro e w' ⟨rfl, rfl⟩) | (go_at_call 28; refine (dec_any _ _).mono ?_; rintro e w' ⟨rfl, rfl⟩))
      go_ret
      exact ⟨ret_int (by simp [spdF, e2]), rfl⟩
  · have h1' : g < 0 := by omega
    have e1 : decide (0 ≤ g) = false := by simpa using h1'
    clear h1
    go_enter Try.func20, Try.ntmps20
    go_wp2_with (first | (go_at_call 27; refine (speed_any _ _).mono ?_; rintro e w' ⟨rfl, rfl⟩) | (go_at_call 28; refine (dec_any _ _).mono ?_; rintro e w' ⟨rfl, rfl⟩))
    go_ret
    exact ⟨ret_int (by simp only [spdF, e1]; rfl), rfl⟩

set_option maxHeartbeats 1000000 in
theorem need_any (v s a b h m : Int) (w : World) : Calls Try.prog 14 #[.int .i64 v, lim s a b h m] w fun e w' => e = .returned (.int .i64 (needF v s a b h m)) ∧ Below w.heap.size w w' := by
  by_cases h1 : 0 ≤ v ∧ v ≤ 4096
  · have e1 := inB_true h1.1 h1.2
    cases e2 : vld s a b h m
    · go_enter Try.func14, Try.ntmps14
      go_wp2_with (first | (go_at_call 25; refine (in_any _ _ _ _).mono ?_; rintro e w' ⟨rfl, rfl⟩) | (go_at_call 26; refine (valid_any _ _ _ _ _ _).mono ?_; rintro e w' ⟨rfl, hb⟩))
      go_ret
      exact ⟨ret_int (by simp [needF, e2]), by first | exact below_box hb | go_grown⟩
    · obtain ⟨v1, v2, v3, v4, v5⟩ := vld_iff.1 e2
      obtain ⟨h0, h0'⟩ := h1
      have hb1 : 1 ≤ b := v3.1
      have hb2 : b ≤ 4096 := by omega
      have eb := inB_true hb1 hb2
      have eW : wayF v b = way v b := by simp [wayF, e1, eb]
      have eT : tckF v b = tck v b := by simp [tckF, e1, eb]
      have hw := way_le h0 h0' hb1
      have ht := tck_bounds h0 hb1
      have hp := mul_le_4096 (t := tck v b + 1) v4.1 v4.2 (by omega) (by omega)
      obtain ⟨hw1, hw2⟩ := hw
      obtain ⟨ht1, ht2⟩ := ht
      obtain ⟨hp1, hp2⟩ := hp
      obtain ⟨m1, m2⟩ := v5
      clear v1 v2 v3 v4 hb2
      go_enter Try.func14, Try.ntmps14
      go_wp2_with (first | (go_at_call 25; refine (in_any _ _ _ _).mono ?_; rintro e w' ⟨rfl, rfl⟩) | (go_at_call 26; refine (valid_any _ _ _ _ _ _).mono ?_; rintro e w' ⟨rfl, hb⟩))
      obtain ⟨hc, hf⟩ := bcell hb
      go_quiet (first | (go_at_call 15; exact Calls.quiet_of_same ((distance_any _ _ _).mono fun _ _ h => ⟨h.1, h.2.symm⟩)) | (go_at_call 17; exact Calls.quiet_of_same ((ticks_any _ _ _).mono fun _ _ h => ⟨h.1, h.2.symm⟩)))
      go_wp2
      go_ret
      exact ⟨ret_int (by simp [needF, e1, e2, need]), below_drewN (below_box hb) _⟩
  · have e1 := inB_false h1
    go_enter Try.func14, Try.ntmps14
    go_wp2_with (first | (go_at_call 25; refine (in_any _ _ _ _).mono ?_; rintro e w' ⟨rfl, rfl⟩) | (go_at_call 26; refine (valid_any _ _ _ _ _ _).mono ?_; rintro e w' ⟨rfl, hb⟩))
    go_ret
    exact ⟨ret_int (by simp [needF, e1]), by first | exact below_box hb | go_grown⟩

set_option maxHeartbeats 1000000 in
theorem rneed_any (v s a b h m : Int) (w : World) : Calls Try.prog 21 #[.int .i64 v, lim s a b h m] w fun e w' => e = .returned (.int .i64 (needF v s a b h m)) ∧ Below w.heap.size w w' := by
  by_cases h1 : 0 ≤ v ∧ v ≤ 4096
  · have e1 := inB_true h1.1 h1.2
    cases e2 : vld s a b h m
    · go_enter Try.func21, Try.ntmps21
      go_wp2_with (first | (go_at_call 27; refine (speed_any _ _).mono ?_; rintro e w' ⟨rfl, rfl⟩) | (go_at_call 13; refine (rvalid_any _ _ _ _ _ _).mono ?_; rintro e w' ⟨rfl, hb⟩))
      go_ret
      exact ⟨ret_int (by simp [needF, e2]), by first | exact below_box hb | go_grown⟩
    · obtain ⟨v1, v2, v3, v4, v5⟩ := vld_iff.1 e2
      obtain ⟨h0, h0'⟩ := h1
      have hb1 : 1 ≤ b := v3.1
      have hb2 : b ≤ 4096 := by omega
      have eb := inB_true hb1 hb2
      have eW : wayF v b = way v b := by simp [wayF, e1, eb]
      have eT : tckF v b = tck v b := by simp [tckF, e1, eb]
      have hw := way_le h0 h0' hb1
      have ht := tck_bounds h0 hb1
      have hp := mul_le_4096 (t := tck v b + 1) v4.1 v4.2 (by omega) (by omega)
      obtain ⟨hw1, hw2⟩ := hw
      obtain ⟨ht1, ht2⟩ := ht
      obtain ⟨hp1, hp2⟩ := hp
      obtain ⟨m1, m2⟩ := v5
      clear v1 v2 v3 v4 hb2
      go_enter Try.func21, Try.ntmps21
      go_wp2_with (first | (go_at_call 27; refine (speed_any _ _).mono ?_; rintro e w' ⟨rfl, rfl⟩) | (go_at_call 13; refine (rvalid_any _ _ _ _ _ _).mono ?_; rintro e w' ⟨rfl, hb⟩))
      obtain ⟨hc, hf⟩ := bcell hb
      go_quiet (first | (go_at_call 16; exact Calls.quiet_of_same ((rdistance_any _ _ _).mono fun _ _ h => ⟨h.1, h.2.symm⟩)) | (go_at_call 18; exact Calls.quiet_of_same ((rticks_any _ _ _).mono fun _ _ h => ⟨h.1, h.2.symm⟩)))
      go_wp2
      go_ret
      exact ⟨ret_int (by simp [needF, e1, e2, need]), below_drewN (below_box hb) _⟩
  · have e1 := inB_false h1
    go_enter Try.func21, Try.ntmps21
    go_wp2_with (first | (go_at_call 27; refine (speed_any _ _).mono ?_; rintro e w' ⟨rfl, rfl⟩) | (go_at_call 13; refine (rvalid_any _ _ _ _ _ _).mono ?_; rintro e w' ⟨rfl, hb⟩))
    go_ret
    exact ⟨ret_int (by simp [needF, e1]), by first | exact below_box hb | go_grown⟩

set_option maxHeartbeats 1000000 in
theorem safe_any (v g s a b h m : Int) (w : World) : Calls Try.prog 10 #[.int .i64 v, .int .i64 g, lim s a b h m] w fun e w' => e = .returned (.bool (safeF v g s a b h m)) ∧ Below w.heap.size w w' := by
  cases e1 : inB v 0 4096
  · go_enter Try.func10, Try.ntmps10
    go_wp2_with (go_at_call 25; refine (in_any _ _ _ _).mono ?_; rintro e w' ⟨rfl, rfl⟩)
    go_ret
    exact ⟨ret_bool (by simp [safeF, e1]), by go_grown⟩
  · cases e2 : vld s a b h m
    · go_enter Try.func10, Try.ntmps10
      go_wp2_with (first | (go_at_call 25; refine (in_any _ _ _ _).mono ?_; rintro e w' ⟨rfl, rfl⟩) | (go_at_call 26; refine (valid_any _ _ _ _ _ _).mono ?_; rintro e w' ⟨rfl, hb⟩; obtain ⟨hc, hf⟩ := bcell hb))
      go_ret
      exact ⟨ret_bool (by simp [safeF, e2]), below_box hb⟩
    · go_enter Try.func10, Try.ntmps10
      go_wp2_with (first | (go_at_call 25; refine (in_any _ _ _ _).mono ?_; rintro e w' ⟨rfl, rfl⟩) | (go_at_call 26; refine (valid_any _ _ _ _ _ _).mono ?_; rintro e w' ⟨rfl, hb⟩; obtain ⟨hc, hf⟩ := bcell hb) | (go_at_call 14; refine (need_any _ _ _ _ _ _ _).mono ?_; rintro e w'' ⟨rfl, hb2⟩))
      go_ret
      exact ⟨ret_bool (by simp [safeF, e1, e2]), below_then (below_box hb) hb2⟩

set_option maxHeartbeats 1000000 in
theorem rsafe_any (v g s a b h m : Int) (w : World) : Calls Try.prog 11 #[.int .i64 v, .int .i64 g, lim s a b h m] w fun e w' => e = .returned (.bool (safeF v g s a b h m)) ∧ Below w.heap.size w w' := by
  cases e1 : inB v 0 4096
  · go_enter Try.func11, Try.ntmps11
    go_wp2_with (go_at_call 27; refine (speed_any _ _).mono ?_; rintro e w' ⟨rfl, rfl⟩)
    go_ret
    exact ⟨ret_bool (by simp [safeF, e1]), by go_grown⟩
  · cases e2 : vld s a b h m
    · go_enter Try.func11, Try.ntmps11
      go_wp2_with (first | (go_at_call 27; refine (speed_any _ _).mono ?_; rintro e w' ⟨rfl, rfl⟩) | (go_at_call 13; refine (rvalid_any _ _ _ _ _ _).mono ?_; rintro e w' ⟨rfl, hb⟩; obtain ⟨hc, hf⟩ := bcell hb))
      go_ret
      exact ⟨ret_bool (by simp [safeF, e2]), below_box hb⟩
    · go_enter Try.func11, Try.ntmps11
      go_wp2_with (first | (go_at_call 27; refine (speed_any _ _).mono ?_; rintro e w' ⟨rfl, rfl⟩) | (go_at_call 13; refine (rvalid_any _ _ _ _ _ _).mono ?_; rintro e w' ⟨rfl, hb⟩; obtain ⟨hc, hf⟩ := bcell hb) | (go_at_call 21; refine (rneed_any _ _ _ _ _ _ _).mono ?_; rintro e w'' ⟨rfl, hb2⟩))
      go_ret
      exact ⟨ret_bool (by simp [safeF, e1, e2]), below_then (below_box hb) hb2⟩

set_option maxHeartbeats 1000000 in
theorem allow_any (g s a b h m : Int) (w : World) : Calls Try.prog 22 #[.int .i64 g, lim s a b h m] w fun e w' => e = .returned (.int .i64 (allowF g s a b h m)) ∧ Below w.heap.size w w' := by
  cases e0 : safeF 0 g s a b h m
  · go_enter Try.func22, Try.ntmps22
    go_wp2_with (go_at_call 10; refine (safe_any _ _ _ _ _ _ _ _).mono ?_; rintro e w' ⟨rfl, hb⟩; obtain ⟨hc, hf⟩ := bcell hb)
    go_ret
    exact ⟨ret_int (by rw [allow_none e0]), below_box hb⟩
  · have hv := vld_iff.1 (safe_iff.1 e0).2.1
    obtain ⟨⟨hv1, hv2⟩, _⟩ := hv
    go_enter Try.func22, Try.ntmps22
    go_wp2_with (first | (go_at_call 10; refine (safe_any _ _ _ _ _ _ _ _).mono ?_; rintro e w' ⟨rfl, hb⟩; obtain ⟨hc, hf⟩ := bcell hb))
    go_quiet (fail)
    go_wp2
    have hB := below_drewN hb nq
    clear hc hf hb
    go_loopw [5, 6] (fun x y wr => ∃ lo hi : Int, 0 ≤ lo ∧ lo ≤ hi ∧ hi ≤ s ∧ x = .int .i64 lo ∧ y = .int .i64 hi ∧ Hid (safeF lo g s a b h m = true ∧ (hi < s → safeF (hi + 1) g s a b h m = false)) ∧
        Below (w.alloc (.cells #[.int .i64 s, .int .i64 a, .int .i64 b, .int .i64 h, .int .i64 m] 23)).heap.size (w.alloc (.cells #[.int .i64 s, .int .i64 a, .int .i64 b, .int .i64 h, .int .i64 m] 23)) wr) (fun x y _ => (intOf y - intOf x).toNat)
    case atStart => exact ⟨0, s, by omega, by omega, by omega, rfl, rfl, hid ⟨e0, fun h => by omega⟩, hB⟩
    case round =>
      clear hB
      obtain ⟨lo, hi, hlo, hlh, hhi, rfl, rfl, HH, hB⟩ := hrel
      obtain ⟨hc, hf⟩ := bcell hB
      by_cases hlt : lo < hi
      · generalize hmid : (lo + hi + 1) / 2 = mid
        have hm1 : lo < mid := by omega
        have hm2 : mid ≤ hi := by omega
        have HM := hid hmid
        clear hmid
        cases es : safeF mid g s a b h m
        · go_wp2_with fail
          rw [HM.out]
          go_wp2_with (go_at_call 10; refine (safe_any _ _ _ _ _ _ _ _).mono ?_; rintro e w' ⟨rfl, hb2⟩)
          go_roundw
          case rel => exact ⟨lo, mid - 1, by omega, by omega, by omega, rfl, rfl, hid ⟨HH.out.1, fun _ => by rw [show mid - 1 + 1 = mid from by omega]; exact es⟩, hB.trans (hb2.mono hB.size)⟩
          case measure => simp [intOf]; omega
        · go_wp2_with fail
          rw [HM.out]
          go_wp2_with (go_at_call 10; refine (safe_any _ _ _ _ _ _ _ _).mono ?_; rintro e w' ⟨rfl, hb2⟩)
          go_roundw
          case rel => exact ⟨mid, hi, by omega, by omega, by omega, rfl, rfl, hid ⟨es, HH.out.2⟩, hB.trans (hb2.mono hB.size)⟩
          case measure => simp [intOf]; omega
      · obtain rfl : hi = lo := by omega
        go_wp2
        go_ret
        exact ⟨ret_int (allow_unique e0 hlo hhi HH.out.1 HH.out.2), below_box hB⟩

set_option maxHeartbeats 1000000 in
theorem rallow_any (g s a b h m : Int) (w : World) : Calls Try.prog 23 #[.int .i64 g, lim s a b h m] w fun e w' => e = .returned (.int .i64 (allowF g s a b h m)) ∧ Below w.heap.size w w' := by
  cases e0 : safeF 0 g s a b h m
  · go_enter Try.func23, Try.ntmps23
    go_wp2_with (go_at_call 11; refine (rsafe_any _ _ _ _ _ _ _ _).mono ?_; rintro e w' ⟨rfl, hb⟩; obtain ⟨hc, hf⟩ := bcell hb)
    go_ret
    exact ⟨ret_int (by rw [allow_none e0]), below_box hb⟩
  · have hv := vld_iff.1 (safe_iff.1 e0).2.1
    obtain ⟨⟨hv1, hv2⟩, _⟩ := hv
    go_enter Try.func23, Try.ntmps23
    go_wp2_with (first | (go_at_call 11; refine (rsafe_any _ _ _ _ _ _ _ _).mono ?_; rintro e w' ⟨rfl, hb⟩; obtain ⟨hc, hf⟩ := bcell hb))
    go_quiet (fail)
    go_wp2
    have hB := below_drewN hb nq
    clear hc hf hb
    go_loopw [5, 6] (fun x y wr => ∃ lo hi : Int, 0 ≤ lo ∧ lo ≤ hi ∧ hi ≤ s ∧ x = .int .i64 lo ∧ y = .int .i64 hi ∧ Hid (safeF lo g s a b h m = true ∧ (hi < s → safeF (hi + 1) g s a b h m = false)) ∧
        Below (w.alloc (.cells #[.int .i64 s, .int .i64 a, .int .i64 b, .int .i64 h, .int .i64 m] 23)).heap.size (w.alloc (.cells #[.int .i64 s, .int .i64 a, .int .i64 b, .int .i64 h, .int .i64 m] 23)) wr) (fun x y _ => (intOf y - intOf x).toNat)
    case atStart => exact ⟨0, s, by omega, by omega, by omega, rfl, rfl, hid ⟨e0, fun h => by omega⟩, hB⟩
    case round =>
      clear hB
      obtain ⟨lo, hi, hlo, hlh, hhi, rfl, rfl, HH, hB⟩ := hrel
      obtain ⟨hc, hf⟩ := bcell hB
      by_cases hlt : lo < hi
      · generalize hmid : (lo + hi + 1) / 2 = mid
        have hm1 : lo < mid := by omega
        have hm2 : mid ≤ hi := by omega
        have HM := hid hmid
        clear hmid
        cases es : safeF mid g s a b h m
        · go_wp2_with fail
          rw [HM.out]
          go_wp2_with (go_at_call 11; refine (rsafe_any _ _ _ _ _ _ _ _).mono ?_; rintro e w' ⟨rfl, hb2⟩)
          go_roundw
          case rel => exact ⟨lo, mid - 1, by omega, by omega, by omega, rfl, rfl, hid ⟨HH.out.1, fun _ => by rw [show mid - 1 + 1 = mid from by omega]; exact es⟩, hB.trans (hb2.mono hB.size)⟩
          case measure => simp [intOf]; omega
        · go_wp2_with fail
          rw [HM.out]
          go_wp2_with (go_at_call 11; refine (rsafe_any _ _ _ _ _ _ _ _).mono ?_; rintro e w' ⟨rfl, hb2⟩)
          go_roundw
          case rel => exact ⟨mid, hi, by omega, by omega, by omega, rfl, rfl, hid ⟨es, HH.out.2⟩, hB.trans (hb2.mono hB.size)⟩
          case measure => simp [intOf]; omega
      · obtain rfl : hi = lo := by omega
        go_wp2
        go_ret
        exact ⟨ret_int (allow_unique e0 hlo hhi HH.out.1 HH.out.2), below_box hB⟩

end Go.Proofs.Ytanaficinidffaa
