/- Walks: braking. -/
import Derived.Test.YtdcclpdnnhaeoaaWc
import Derived.Test.YtdcclpdnnhaeoaaBrk
namespace Go.Proofs.Ytdcclpdnnhaeoaa
open Go.RowKit
set_option linter.unusedVariables false
theorem ticks_ok {v b : Int} (h1 : 0 ≤ v) (h1' : v ≤ 4096) (h2 : 1 ≤ b) (h2' : b ≤ 4096) (w : World) : Calls Try.prog 57 #[.int .i64 v, .int .i64 b] w fun e w' => e = .returned (.int .i64 (tck v b)) ∧ w = w' := by
  have e1 := inB_mk h1 h1'
  have e2 := inB_mk h2 h2'
  go_enter Try.func57, Try.ntmps57
  go_wp2_with (first | (go_at_call 45; (with_reducible refine (bin_any _ _ _ _).mono ?_); rintro e w' ⟨rfl, rfl⟩))
  go_ret
  exact ⟨ret_int (by simp [tck]), rfl⟩
theorem mul_in {k t b v : Int} (hb : 1 ≤ b) (hk : 0 ≤ k) (hkt : k < t) (ht : t = tck v b) : 0 ≤ k * b ∧ k * b < v := by
  subst ht
  have := (tck_iff (v := v) (b := b) (k := k) hb).1 hkt
  exact ⟨Int.mul_nonneg hk (by omega), by omega⟩
set_option maxHeartbeats 1000000 in
theorem bdist_ok {v b : Int} (h1 : 0 ≤ v) (h1' : v ≤ 4096) (h2 : 1 ≤ b) (h2' : b ≤ 4096) (w : World) : Calls Try.prog 46 #[.int .i64 v, .int .i64 b] w fun e w' => e = .returned (.int .i64 (way v b)) ∧ w = w' := by
  have e1 := inB_mk h1 h1'
  have e2 := inB_mk h2 h2'
  have HQ := hid (fun w => ticks_ok h1 h1' h2 h2' w)
  have hT := tck_bounds h1 h2
  generalize hT' : tck v b = T at hT HQ
  have HT := hid hT'
  clear hT'
  go_enter Try.func46, Try.ntmps46
  go_wp2_with (first | (go_at_call 45; (with_reducible refine (bin_any _ _ _ _).mono ?_); rintro e w' ⟨rfl, rfl⟩) | (go_at_call 57; (with_reducible refine (HQ.out _).mono ?_); rintro e w' ⟨rfl, rfl⟩))
  go_loop [5, 18] (fun x i => ∃ k : Nat, (k : Int) ≤ T ∧ i = .int .i64 k ∧ x = .int .i64 (sumD v b k)) (fun _ i => (T - intOf i).toNat)
  case atStart => exact ⟨0, hT.1, rfl, rfl⟩
  case round =>
    obtain ⟨k, hk, rfl, rfl⟩ := hrel
    have hs : 0 ≤ sumD v b k := sumD_nonneg v b h2 k (by rw [HT.out]; exact hk)
    have hs2 : sumD v b k ≤ v * k := sumD_le v b h1 h2 k
    have hs3 : v * k ≤ 4096 * 4096 := Int.mul_le_mul h1' (by omega) (by omega) (by omega)
    have hs4 : sumD v b k ≤ 16777216 := by omega
    clear hs2 hs3
    by_cases hlt : (k : Int) < T
    · have hm := mul_in h2 (by omega) hlt HT.out.symm
      obtain ⟨hm1, hm2⟩ := hm
      go_wp2
      go_round
      case rel => exact ⟨k + 1, by omega, by go_num, rfl⟩
      case measure => simp [intOf]; omega
    · go_wp2
      go_ret
      have : k = (tck v b).toNat := by rw [HT.out]; omega
      exact ⟨ret_int (by simp [way, this]), rfl⟩
set_option maxHeartbeats 1000000 in
theorem stops_ok {v b : Int} (h1 : 0 ≤ v) (h1' : v ≤ 4096) (h2 : 1 ≤ b) (h2' : b ≤ 4096) (w : World) : Calls Try.prog 52 #[.int .i64 v, .int .i64 b] w fun e w' => e = .returned (.int .i64 (way v b)) ∧ w = w' := by
  have hT := tck_bounds h1 h2
  generalize hT' : tck v b = T at hT
  have HT := hid hT'
  clear hT'
  go_enter Try.func52, Try.ntmps52
  go_wp2_with fail
  go_loop [0, 5] (fun i x => ∃ (k : Nat) (u : Int), (k : Int) ≤ T ∧ Hid (u = v - k * b) ∧ i = .int .i64 u ∧ x = .int .i64 (sumD v b k)) (fun i _ => (intOf i).toNat)
  case atStart => exact ⟨0, v, hT.1, hid (by simp), rfl, rfl⟩
  case round =>
    obtain ⟨k, u, hk, hu, rfl, rfl⟩ := hrel
    have hs : 0 ≤ sumD v b k := sumD_nonneg v b h2 k (by rw [HT.out]; exact hk)
    have hs2 : sumD v b k ≤ v * k := sumD_le v b h1 h2 k
    have hs3 : v * k ≤ 4096 * 4096 := Int.mul_le_mul h1' (by omega) (by omega) (by omega)
    have hs4 : sumD v b k ≤ 16777216 := by omega
    clear hs2 hs3
    have hki := tck_iff (v := v) (b := b) (k := k) h2
    rw [HT.out, ← hu.out] at hki
    have hnn : 0 ≤ (k : Int) * b := Int.mul_nonneg (by omega) (by omega)
    have huv : u ≤ v := by have := hu.out; omega
    clear hnn
    by_cases hlt : 0 < u
    · have hlt' := hki.2 hlt
      clear hki
      go_wp2
      go_round
      case rel => exact ⟨k + 1, u - b, by omega, hid (by rw [hu.out]; push_cast; rw [Int.add_mul]; omega), rfl, by rw [hu.out]; rfl⟩
      case measure => simp [intOf]; omega
    · have hge : T ≤ k := by
        rcases Int.lt_or_le (k : Int) T with h | h
        · exact absurd (hki.1 h) hlt
        · exact h
      clear hki
      go_wp2
      go_ret
      have : k = (tck v b).toNat := by rw [HT.out]; omega
      exact ⟨ret_int (by simp [way, this]), rfl⟩
set_option maxHeartbeats 1000000 in
theorem bspeed_ok {g b : Int} (hg : g ≤ 9223372036854775807) (h1 : 0 ≤ g) (h2 : 1 ≤ b) (h2' : b ≤ 4096) (w : World) : Calls Try.prog 33 #[.int .i64 g, .int .i64 b] w fun e w' => e = .returned (.int .i64 (spd g b)) ∧ w = w' := by
  have e2 := inB_mk h2 h2'
  go_enter Try.func33, Try.ntmps33
  go_wp2_with (first | (go_at_call 45; (with_reducible refine (bin_any _ _ _ _).mono ?_); rintro e w' ⟨rfl, rfl⟩))
  go_loop [5, 6] (fun x y => ∃ lo hi : Int, 0 ≤ lo ∧ lo ≤ hi ∧ hi ≤ 4096 ∧ x = .int .i64 lo ∧ y = .int .i64 hi ∧ Hid (way lo b ≤ g ∧ (hi < 4096 → g < way (hi + 1) b))) (fun x y => (intOf y - intOf x).toNat)
  case atStart => exact ⟨0, 4096, by omega, by omega, by omega, rfl, rfl, hid ⟨by rw [way_zero h2]; exact h1, fun h => by omega⟩⟩
  case round =>
    obtain ⟨lo, hi, hlo, hlh, hhi, rfl, rfl, HH⟩ := hrel
    by_cases hlt : lo < hi
    · generalize hmid : (lo + hi + 1) / 2 = mid
      have hm1 : lo < mid := by omega
      have hm2 : mid ≤ hi := by omega
      have hm3 : 0 ≤ mid := by omega
      have hm4 : mid ≤ 4096 := by omega
      have HD := hid (fun w => bdist_ok hm3 hm4 h2 h2' w)
      have hwb := way_le hm3 hm4 h2
      generalize hW : way mid b = W at HD hwb
      have HM := hid hmid
      have HW := hid hW
      clear hmid hW
      by_cases hle : W ≤ g
      · go_wp2_with fail
        rw [HM.out]
        go_wp2_with (go_at_call 46; (with_reducible refine (HD.out _).mono ?_); rintro e w' ⟨rfl, rfl⟩)
        go_round
        case rel => exact ⟨mid, hi, by omega, by omega, by omega, rfl, rfl, hid ⟨by rw [HW.out]; exact hle, HH.out.2⟩⟩
        case measure => simp [intOf]; omega
      · have hle' : g < W := by omega
        go_wp2_with fail
        rw [HM.out]
        go_wp2_with (go_at_call 46; (with_reducible refine (HD.out _).mono ?_); rintro e w' ⟨rfl, rfl⟩)
        go_round
        case rel => exact ⟨lo, mid - 1, by omega, by omega, by omega, rfl, rfl, hid ⟨HH.out.1, fun _ => by rw [show mid - 1 + 1 = mid from by omega, HW.out]; omega⟩⟩
        case measure => simp [intOf]; omega
    · obtain rfl : hi = lo := by omega
      go_wp2
      go_ret
      exact ⟨ret_int (spd_unique h2 hlo hhi HH.out.1 HH.out.2), rfl⟩
set_option maxHeartbeats 1000000 in
theorem rspeed_ok {g b S : Int} (hg : g ≤ 9223372036854775807) (h1 : 0 ≤ g) (h2 : 1 ≤ b) (h2' : b ≤ 4096) (s1 : 0 ≤ S) (s2 : S ≤ 4096) (w : World) : Calls Try.prog 39 #[.int .i64 g, .int .i64 b, .int .i64 S] w fun e w' => e = .returned (.int .i64 (min S (spd g b))) ∧ w = w' := by
  go_enter Try.func39, Try.ntmps39
  go_wp2_with fail
  go_loop [7] (fun x => ∃ k : Int, 0 ≤ k ∧ k ≤ S ∧ x = .int .i64 k ∧ Hid (way k b ≤ g)) (fun x => (S - intOf x).toNat)
  case atStart => exact ⟨0, by omega, by omega, rfl, hid (by rw [way_zero h2]; exact h1)⟩
  case round =>
    obtain ⟨k, hk, hkS, rfl, HH⟩ := hrel
    rcases Int.lt_or_le k S with hlt | hlt
    · have HD := hid (fun w => stops_ok (v := k + 1) (by omega) (by omega) h2 h2' w)
      generalize hW : way (k + 1) b = W at HD
      have HW := hid hW
      clear hW
      rcases Int.lt_or_le g W with hle | hle
      · go_wp2_with (first | (go_at_call 52; (with_reducible refine (HD.out _).mono ?_); rintro e w' ⟨rfl, rfl⟩))
        go_ret
        exact ⟨ret_int (min_spd h1 h2 s2 hk hkS HH.out (fun _ => by rw [HW.out]; exact hle)), rfl⟩
      · go_wp2_with (first | (go_at_call 52; (with_reducible refine (HD.out _).mono ?_); rintro e w' ⟨rfl, rfl⟩))
        go_round
        case rel => exact ⟨k + 1, by omega, by omega, rfl, hid (by rw [HW.out]; exact hle)⟩
        case measure => simp [intOf]; omega
    · obtain rfl : k = S := by omega
      go_wp2_with fail
      go_ret
      exact ⟨ret_int (min_spd h1 h2 s2 hk hkS HH.out (fun h => by omega)), rfl⟩
end Go.Proofs.Ytdcclpdnnhaeoaa
