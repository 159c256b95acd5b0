import Derived.Test.YteinfhfapelegaaWb
namespace Go.Proofs.Yteinfhfapelegaa
open Go.RowKit

theorem u64_neg (n : Int) (h1 : -9223372036854775808 ≤ n) (h2 : n < 0) : IntKind.u64.wrap (-IntKind.u64.wrap n) = -n := by
  simp only [IntKind.wrap, IntKind.bits, IntKind.signed]
  simp
  omega
theorem mag_any (n : Int) (h1 : -9223372036854775808 ≤ n) (h2 : n ≤ 9223372036854775807) (w : World) : Calls Try.prog 31 #[.int .i64 n] w fun e w' => e = .returned (.int .u64 (absI n)) ∧ w = w' := by
  by_cases h : n < 0
  · have e := u64_neg n h1 h
    go_enter Try.func31, Try.ntmps31
    go_wp2
    go_ret
    exact ⟨ret_int (by unfold absI; rw [if_pos h]), rfl⟩
  · go_enter Try.func31, Try.ntmps31
    go_wp2
    go_ret
    exact ⟨ret_int (by unfold absI; rw [if_neg (Int.not_lt.2 h)]), rfl⟩
theorem rmag_any (n : Int) (h1 : -9223372036854775808 ≤ n) (h2 : n ≤ 9223372036854775807) (w : World) : Calls Try.prog 33 #[.int .i64 n] w fun e w' => e = .returned (.int .u64 (absI n)) ∧ w = w' := by
  by_cases h : n < 0
  · have e : IntKind.u64.wrap (0 - IntKind.u64.wrap n) = -n := by rw [Int.zero_sub]; exact u64_neg n h1 h
    have e' := u64_neg n h1 h
    go_enter Try.func33, Try.ntmps33
    go_wp2
    go_ret
    exact ⟨ret_int (by unfold absI; rw [if_pos h]), rfl⟩
  · go_enter Try.func33, Try.ntmps33
    go_wp2
    go_ret
    exact ⟨ret_int (by unfold absI; rw [if_neg (Int.not_lt.2 h)]), rfl⟩
theorem sat_any (b : Bool) (n : Int) (h1 : 0 ≤ n) (h2 : n < 18446744073709551616) (w : World) : Calls Try.prog 32 #[.bool b, .int .u64 n] w fun e w' => e = .returned (.int .i64 (satI b n)) ∧ w = w' := by
  cases b
  all_goals
    go_enter Try.func32, Try.ntmps32
    go_wp2
    all_goals (go_ret; exact ⟨ret_int (by simp [satI]; omega), rfl⟩)
theorem rsat_any (b : Bool) (n : Int) (h1 : 0 ≤ n) (h2 : n < 18446744073709551616) (w : World) : Calls Try.prog 34 #[.bool b, .int .u64 n] w fun e w' => e = .returned (.int .i64 (satI b n)) ∧ w = w' := by
  cases b
  all_goals
    go_enter Try.func34, Try.ntmps34
    go_wp2
    all_goals (go_ret; exact ⟨ret_int (by simp [satI]; omega), rfl⟩)

theorem ret_two {k k' : IntKind} {a a' b b' : Int} (h1 : a = a') (h2 : b = b') : Ending.returned (.tuple #[.int k a, .int k' b]) = .returned (.tuple #[.int k a', .int k' b']) := by rw [h1, h2]
theorem and_mask (z : Int) (h1 : 0 ≤ z) (h2 : z < 18446744073709551616) : bits .and .u64 z 4294967295 = z % 4294967296 := by
  obtain ⟨m, rfl⟩ := Int.eq_ofNat_of_zero_le h1
  have e := u64_and_nat m 4294967295 (by omega) (by omega)
  rw [show ((4294967295 : Nat) : Int) = 4294967295 from rfl] at e
  rw [e, nat_mask32]
  omega
theorem or_words (o l : Int) (h3 : 0 ≤ l) (h4 : l < 4294967296) : bits .or .u64 (IntKind.u64.wrap (o * 4294967296)) l = o % 4294967296 * 4294967296 + l := by
  have e : IntKind.u64.wrap (o * 4294967296) = o % 4294967296 * 4294967296 := by
    simp only [IntKind.wrap, IntKind.bits, IntKind.signed]
    simp
    omega
  rw [e]
  obtain ⟨m, hm⟩ := Int.eq_ofNat_of_zero_le (show 0 ≤ o % 4294967296 by omega)
  obtain ⟨n, rfl⟩ := Int.eq_ofNat_of_zero_le h3
  rw [hm, show (m : Int) * 4294967296 = ((m * 4294967296 : Nat) : Int) from by omega, u64_or_nat _ _ (by omega) (by omega), nat_join 32 _ _ (by omega) (by omega)]
  omega

set_option maxHeartbeats 2000000 in
theorem prod_any (x y : Int) (hx0 : 0 ≤ x) (hx1 : x < 18446744073709551616) (hy0 : 0 ≤ y) (hy1 : y < 18446744073709551616) (w : World) :
    Calls Try.prog 35 #[.int .u64 x, .int .u64 y] w fun e w' => e = .returned (.tuple #[.int .u64 (x * y / 18446744073709551616), .int .u64 (x * y % 18446744073709551616)]) ∧ w = w' := by
  obtain ⟨a, b, c, d, ac, ad, bc, bd, ha, hb, hc, hd, hac, had, hbc, hbd, b1, b2, b3, b4, b5, b6, b7, b8, hxy⟩ := words hx0 hx1 hy0 hy1
  rw [hxy]
  have mb := and_mask x hx0 hx1
  have md := and_mask y hy0 hy1
  rw [hb] at mb
  rw [hd] at md
  have ml := and_mask bd b7 (by omega)
  have mm := and_mask (ad + bd / 4294967296) (by omega) (by omega)
  have mo := or_words (bc + (ad + bd / 4294967296) % 4294967296) (bd % 4294967296) (by omega) (by omega)
  have HO := hid mo
  clear mo hxy hb hd
  go_enter Try.func35, Try.ntmps35
  go_wp2
  go_ret2
  exact ⟨ret_two (by omega) (HO.out.trans (by omega)), rfl⟩

theorem or_48 (h s : Int) (h1 : 0 ≤ h) (h2 : h < 65536) (h3 : 0 ≤ s) (h4 : s < 18446744073709551616) : bits .or .u64 (h * 281474976710656) (s / 65536) = h * 281474976710656 + s / 65536 := by
  obtain ⟨m, rfl⟩ := Int.eq_ofNat_of_zero_le h1
  obtain ⟨n, hn⟩ := Int.eq_ofNat_of_zero_le (show 0 ≤ s / 65536 by omega)
  rw [hn, show (m : Int) * 281474976710656 = ((m * 281474976710656 : Nat) : Int) from by omega, u64_or_nat _ _ (by omega) (by omega), nat_join 48 _ _ (by omega) (by omega)]
  omega
theorem wrap_over (l : Int) (h1 : 18446744073709551616 ≤ l + 32768) (h2 : l < 18446744073709551616) : IntKind.u64.wrap (l + 32768) = l + 32768 - 18446744073709551616 := by
  rw [show IntKind.u64.wrap (l + 32768) = (l + 32768) % 18446744073709551616 from by simp [IntKind.wrap, IntKind.bits, IntKind.signed]]
  omega
theorem abs_mul_bound {a b : Int} (h1 : -9223372036854775808 ≤ a) (h2 : a ≤ 9223372036854775807) (h3 : -9223372036854775808 ≤ b) (h4 : b ≤ 9223372036854775807) :
    0 ≤ absI a * absI b ∧ absI a * absI b / 18446744073709551616 ≤ 4611686018427387904 := by
  obtain ⟨a1, a2⟩ := absI_le h1 h2
  obtain ⟨b1, b2⟩ := absI_le h3 h4
  have := Int.mul_le_mul a2 b2 b1 (by omega)
  exact ⟨Int.mul_nonneg a1 b1, by omega⟩

set_option maxHeartbeats 2000000 in
theorem mul_any (a b : Int) (h1 : -9223372036854775808 ≤ a) (h2 : a ≤ 9223372036854775807) (h3 : -9223372036854775808 ≤ b) (h4 : b ≤ 9223372036854775807) (w : World) :
    Calls Try.prog 10 #[.int .i64 a, .int .i64 b] w fun e w' => e = .returned (.int .i64 (mulI a b)) ∧ w = w' := by
  obtain ⟨p1, p2⟩ := abs_mul_bound h1 h2 h3 h4
  obtain ⟨a1, a2⟩ := absI_le h1 h2
  obtain ⟨b1, b2⟩ := absI_le h3 h4
  have HP : Hid (mulI a b = satI (negB a b) ((absI a * absI b + 32768) / 65536)) := hid rfl
  have hm : ∀ (z : World), Calls Try.prog 31 #[.int .i64 a] z fun e w' => e = .returned (.int .u64 (absI a)) ∧ z = w' := fun z => mag_any a h1 h2 z
  have hm2 : ∀ (z : World), Calls Try.prog 31 #[.int .i64 b] z fun e w' => e = .returned (.int .u64 (absI b)) ∧ z = w' := fun z => mag_any b h3 h4 z
  have HM := hid hm
  have HM2 := hid hm2
  clear hm hm2
  generalize absI a = A at *
  generalize absI b = B at *
  generalize hhi : A * B / 18446744073709551616 = hi at *
  generalize hlo : A * B % 18446744073709551616 = lo at *
  have l1 : 0 ≤ lo := by omega
  have l2 : lo < 18446744073709551616 := by omega
  have l3 : 0 ≤ hi := by omega
  have HQ : Hid (A * B = hi * 18446744073709551616 + lo) := hid (by omega)
  have hAB : ∀ z : World, Calls Try.prog 35 #[.int .u64 A, .int .u64 B] z fun e w' => e = .returned (.tuple #[.int .u64 hi, .int .u64 lo]) ∧ z = w' := fun z => by
    have := prod_any A B a1 (by omega) b1 (by omega) z
    rw [hhi, hlo] at this
    exact this
  have HAB := hid hAB
  clear hAB hhi hlo p1
  by_cases hov : 18446744073709551616 ≤ lo + 32768
  · have hw := wrap_over lo hov l2
    generalize hs : lo + 32768 - 18446744073709551616 = s at *
    have s1 : 0 ≤ s := by omega
    have s2 : s < 32768 := by omega
    have s3 : s < lo := by omega
    have HS := hid hs
    clear hs
    by_cases hbig : 65536 ≤ hi + 1
    · go_enter Try.func10, Try.ntmps10
      go_wp2_with (first
        | (go_at_call 31; (with_reducible refine (HM.out _).mono ?_); rintro e w' ⟨rfl, rfl⟩)
        | (go_at_call 31; (with_reducible refine (HM2.out _).mono ?_); rintro e w' ⟨rfl, rfl⟩)
        | (go_at_call 35; refine (HAB.out _).mono ?_; rintro e w' ⟨rfl, rfl⟩)
        | (go_at_call 32; refine (sat_any _ _ (by omega) (by omega) _).mono ?_; rintro e w' ⟨rfl, rfl⟩))
      go_ret
      exact ⟨ret_int (by rw [HP.out]; exact sat_big (by omega) (by have := HQ.out; have := HS.out; omega)), rfl⟩
    · have ho := or_48 (hi + 1) s (by omega) (by omega) s1 (by omega)
      have hsm : hi + 1 < 65536 := by omega
      clear hbig
      go_enter Try.func10, Try.ntmps10
      go_wp2_with (first
        | (go_at_call 31; (with_reducible refine (HM.out _).mono ?_); rintro e w' ⟨rfl, rfl⟩)
        | (go_at_call 31; (with_reducible refine (HM2.out _).mono ?_); rintro e w' ⟨rfl, rfl⟩)
        | (go_at_call 35; refine (HAB.out _).mono ?_; rintro e w' ⟨rfl, rfl⟩)
        | (go_at_call 32; refine (sat_any _ _ (by omega) (by omega) _).mono ?_; rintro e w' ⟨rfl, rfl⟩))
      go_ret
      exact ⟨ret_int (by rw [HP.out]; exact sat_eq_of (by have := HQ.out; have := HS.out; omega)), rfl⟩
  · have hov' : lo + 32768 < 18446744073709551616 := by omega
    clear hov
    by_cases hbig : 65536 ≤ hi
    · go_enter Try.func10, Try.ntmps10
      go_wp2_with (first
        | (go_at_call 31; (with_reducible refine (HM.out _).mono ?_); rintro e w' ⟨rfl, rfl⟩)
        | (go_at_call 31; (with_reducible refine (HM2.out _).mono ?_); rintro e w' ⟨rfl, rfl⟩)
        | (go_at_call 35; refine (HAB.out _).mono ?_; rintro e w' ⟨rfl, rfl⟩)
        | (go_at_call 32; refine (sat_any _ _ (by omega) (by omega) _).mono ?_; rintro e w' ⟨rfl, rfl⟩))
      go_ret
      exact ⟨ret_int (by rw [HP.out]; exact sat_big (by omega) (by have := HQ.out; omega)), rfl⟩
    · have ho := or_48 hi (lo + 32768) (by omega) (by omega) (by omega) hov'
      have hsm : hi < 65536 := by omega
      clear hbig
      go_enter Try.func10, Try.ntmps10
      go_wp2_with (first
        | (go_at_call 31; (with_reducible refine (HM.out _).mono ?_); rintro e w' ⟨rfl, rfl⟩)
        | (go_at_call 31; (with_reducible refine (HM2.out _).mono ?_); rintro e w' ⟨rfl, rfl⟩)
        | (go_at_call 35; refine (HAB.out _).mono ?_; rintro e w' ⟨rfl, rfl⟩)
        | (go_at_call 32; refine (sat_any _ _ (by omega) (by omega) _).mono ?_; rintro e w' ⟨rfl, rfl⟩))
      go_ret
      exact ⟨ret_int (by rw [HP.out]; exact sat_eq_of (by have := HQ.out; omega)), rfl⟩
end Go.Proofs.Yteinfhfapelegaa
