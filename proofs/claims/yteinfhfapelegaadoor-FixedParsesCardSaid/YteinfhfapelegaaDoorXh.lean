/- Walks: the functions that the law's own check calls. -/
import Derived.Test.YteinfhfapelegaaDoorXg
import Derived.Test.YteinfhfapelegaaDoorTail
import Derived.Test.YteinfhfapelegaaDoorPlain
namespace Go.Proofs.YteinfhfapelegaaDoor
open Go.RowKit
set_option linter.unusedVariables false
set_option linter.unusedSimpArgs false
abbrev pt (x y : Int) : Value := .agg #[.int .i64 x, .int .i64 y]
set_option maxHeartbeats 400000 in
theorem square_any (x y : Int) (hx1 : -1073741824 ≤ x) (hx2 : x ≤ 1073741824) (hy1 : -1073741824 ≤ y) (hy2 : y ≤ 1073741824) (w : World) : Calls Tryd.prog 23 #[pt x y] w fun e w' => e = .returned (.int .i64 (sqr x y)) ∧ Below w.heap.size w w' := by
  have p1 := sq_self_nonneg x
  have p2 := sq_self_nonneg y
  have p3 := sq_abs_le hx1 hx2
  have p4 := sq_abs_le hy1 hy2
  go_enter Tryd.func23, Tryd.ntmps23
  go_wp2
  go_ret
  exact ⟨rfl, by go_grown⟩
theorem or_join (k : Nat) (r : Int) (hr : 0 ≤ r) (hm : r % 2 ^ (k + 1) = 0) (hb : r + 2 ^ (k + 1) ≤ 4294967296) : bits .or .u64 r (2 ^ k) = r + 2 ^ k := by
  obtain ⟨m, rfl⟩ := Int.eq_ofNat_of_zero_le hr
  have e : ((2 : Int) ^ k) = ((2 ^ k : Nat) : Int) := by push_cast; rfl
  have e2 : ((2 : Int) ^ (k + 1)) = ((2 ^ (k + 1) : Nat) : Int) := by push_cast; rfl
  have hlt : (2 ^ (k + 1) : Nat) ≤ 4294967296 := by rw [e2] at hb; omega
  have hlt2 : (2 ^ k : Nat) ≤ 4294967296 := by rw [Nat.pow_succ] at hlt; omega
  have hm' : m % 2 ^ (k + 1) = 0 := by rw [e2] at hm; omega
  rw [e, u64_or_nat m (2 ^ k) (by rw [e2] at hb; omega) (by omega), nat_join (k + 1) m (2 ^ k) hm' (by rw [Nat.pow_succ]; have := Nat.two_pow_pos k; omega)]
  push_cast
  rfl
/-- the bit at the head of a round with k bits to come -/
def bitv : Nat → Int
  | 0 => 0
  | k + 1 => 2 ^ k
theorem bitv_half (k : Nat) : (2 ^ k : Int) / 2 = bitv k := by
  cases k with
  | zero => rfl
  | succ k => simp only [bitv, Int.pow_succ]; omega
set_option maxHeartbeats 2000000 in
theorem root_any (n : Int) (hn : n ≤ 9223372036854775807) (w : World) : Calls Tryd.prog 20 #[.int .i64 n] w fun e w' => e = .returned (.int .i64 (isq n)) ∧ w = w' := by
  by_cases h0 : n ≤ 0
  · go_enter Tryd.func20, Tryd.ntmps20
    go_wp2
    go_ret
    exact ⟨ret_int (isq_neg h0).symm, rfl⟩
  · have hpos : 0 < n := by omega
    clear h0
    go_enter Tryd.func20, Tryd.ntmps20
    go_wp2
    go_loop [3, 4] (fun x b => ∃ (k : Nat) (r : Int), k ≤ 32 ∧ 0 ≤ r ∧ Hid (r % 2 ^ k = 0 ∧ r + 2 ^ k ≤ 4294967296 ∧ isqB k r n = isq n) ∧ x = .int .u64 r ∧ b = .int .u64 (bitv k)) (fun _ b => (intOf b).toNat)
    case atStart => exact ⟨32, 0, by omega, by omega, hid ⟨by decide, by decide, rfl⟩, rfl, rfl⟩
    case round =>
      obtain ⟨k, r, hk, hr, HH, rfl, rfl⟩ := hrel
      have hrb := HH.out.2.1
      cases k with
      | zero =>
        have hr2 : r ≤ 4294967295 := by simp at hrb; omega
        have eB : bitv 0 = 0 := rfl
        clear hrb
        go_wp2
        go_ret
        exact ⟨ret_int HH.out.2.2, rfl⟩
      | succ k =>
        have hp := two_pow_pos k
        have ho := or_join k r hr HH.out.1 hrb
        have eB : bitv (k + 1) = 2 ^ k := rfl
        have eH := bitv_half k
        have e2 : (2 : Int) ^ (k + 1) = 2 ^ k + 2 ^ k := by rw [Int.pow_succ]; omega
        have hpb : (2 : Int) ^ k ≤ 2147483648 := by rw [e2] at hrb; omega
        have hx1 : 0 ≤ r + 2 ^ k := by omega
        have hx2 : r + 2 ^ k ≤ 4294967295 := by rw [e2] at hrb; omega
        have hm : ∀ s : Int, s = 0 ∨ s = 2 ^ k → (r + s) % 2 ^ k = 0 := fun s hs => by
          have h1 := HH.out.1
          rw [e2] at h1
          have h2 : r % 2 ^ k = 0 := by
            have h3 : (2 ^ k + 2 ^ k : Int) ∣ r := Int.dvd_of_emod_eq_zero h1
            have h4 : (2 ^ k : Int) ∣ 2 ^ k + 2 ^ k := ⟨2, by omega⟩
            exact Int.emod_eq_zero_of_dvd (Int.dvd_trans h4 h3)
          rcases hs with rfl | rfl
          · simpa using h2
          · rw [Int.add_emod, h2]; simp
        have HM := hid hm
        have HE2 := hid e2
        have HHH := hid HH.out.2.2
        have hrb2 : r + 2 ^ k + 2 ^ k ≤ 4294967296 := by rw [e2] at hrb; omega
        clear e2 hm hrb HH
        have hq1 : 0 ≤ (r + 2 ^ k) * (r + 2 ^ k) := Int.mul_nonneg hx1 hx1
        have hq2 : (r + 2 ^ k) * (r + 2 ^ k) ≤ 4294967295 * 4294967295 := Int.mul_le_mul hx2 hx2 hx1 (by omega)
        have hbig : (4294967295 : Int) * 4294967295 = 18446744065119617025 := by decide
        rw [hbig] at hq2
        clear hbig
        generalize hP : (2 : Int) ^ k = p at *
        have HP := hid hP
        clear hP
        by_cases hle : (r + p) * (r + p) ≤ n
        · go_wp2
          go_round
          case rel =>
            refine ⟨k, r + p, by omega, hx1, hid ⟨?_, ?_, ?_⟩, rfl, rfl⟩
            · rw [HP.out]; exact HM.out p (Or.inr rfl)
            · rw [HP.out]; exact hrb2
            · rw [← HHH.out, isqB_yes (by rw [HP.out]; exact hle), HP.out]
          case measure => simp [intOf]; omega
        · have hle' : n < (r + p) * (r + p) := by omega
          go_wp2
          go_round
          case rel =>
            refine ⟨k, r, by omega, hr, hid ⟨?_, ?_, ?_⟩, rfl, rfl⟩
            · rw [HP.out]; have := HM.out 0 (Or.inl rfl); simpa using this
            · rw [HP.out]; omega
            · rw [← HHH.out, isqB_no (by rw [HP.out]; omega)]
          case measure => simp [intOf]; omega
theorem length_any (x y : Int) (hx1 : -1073741824 ≤ x) (hx2 : x ≤ 1073741824) (hy1 : -1073741824 ≤ y) (hy2 : y ≤ 1073741824) (w : World) : Calls Tryd.prog 21 #[pt x y] w fun e w' => e = .returned (.int .i64 (isq (sqr x y))) ∧ Below w.heap.size w w' := by
  have h1 := sqr_le hx1 hx2 hy1 hy2
  have h2 : sqr x y ≤ 9223372036854775807 := by omega
  obtain ⟨h3, h4⟩ := isq_le h2
  clear h1
  go_enter Tryd.func21, Tryd.ntmps21
  go_wp2_with (first
    | (go_at_call 23; refine (square_any x y hx1 hx2 hy1 hy2 _).mono ?_; rintro e w' ⟨rfl, hb⟩)
    | (go_at_call 20; refine (root_any _ h2 _).mono ?_; rintro e w' ⟨rfl, rfl⟩))
  go_ret
  exact ⟨rfl, below_box hb⟩
theorem u64_neg (n : Int) (h1 : -9223372036854775808 ≤ n) (h2 : n < 0) : IntKind.u64.wrap (-IntKind.u64.wrap n) = -n := by
  simp only [IntKind.wrap, IntKind.bits, IntKind.signed]
  simp
  omega
theorem mag_any (n : Int) (h1 : -9223372036854775808 ≤ n) (h2 : n ≤ 9223372036854775807) (w : World) : Calls Tryd.prog 14 #[.int .i64 n] w fun e w' => e = .returned (.int .u64 (absI n)) ∧ w = w' := by
  by_cases h : n < 0
  · have e := u64_neg n h1 h
    go_enter Tryd.func14, Tryd.ntmps14
    go_wp2
    go_ret
    exact ⟨ret_int (by unfold absI; rw [if_pos h]), rfl⟩
  · go_enter Tryd.func14, Tryd.ntmps14
    go_wp2
    go_ret
    exact ⟨ret_int (by unfold absI; rw [if_neg (Int.not_lt.2 h)]), rfl⟩
theorem sat_any (b : Bool) (n : Int) (h1 : 0 ≤ n) (h2 : n < 18446744073709551616) (w : World) : Calls Tryd.prog 10 #[.bool b, .int .u64 n] w fun e w' => e = .returned (.int .i64 (satI b n)) ∧ w = w' := by
  cases b
  all_goals
    go_enter Tryd.func10, Tryd.ntmps10
    go_wp2
    all_goals (go_ret; exact ⟨ret_int (by simp [satI] <;> omega), rfl⟩)
theorem ret_two {k k' : IntKind} {a a' b b' : Int} (h1 : a = a') (h2 : b = b') : Ending.returned (.tuple #[.int k a, .int k' b]) = .returned (.tuple #[.int k a', .int k' b']) := by rw [h1, h2]
theorem and_mask (z : Int) (h1 : 0 ≤ z) (h2 : z < 18446744073709551616) : bits .and .u64 z 4294967295 = z % 4294967296 := by
  obtain ⟨m, rfl⟩ := Int.eq_ofNat_of_zero_le h1
  have e := u64_and_nat m 4294967295 (by omega) (by omega)
  rw [show ((4294967295 : Nat) : Int) = 4294967295 from rfl] at e
  rw [e, nat_mask32]
  omega
theorem or_words (o l : Int) (h3 : 0 ≤ l) (h4 : l < 4294967296) : bits .or .u64 (IntKind.u64.wrap (o * 4294967296)) l = o % 4294967296 * 4294967296 + l := by
  have e : IntKind.u64.wrap (o * 4294967296) = o % 4294967296 * 4294967296 := by
    simp only [IntKind.wrap, IntKind.bits, IntKind.signed]
    simp
    omega
  rw [e]
  obtain ⟨m, hm⟩ := Int.eq_ofNat_of_zero_le (show 0 ≤ o % 4294967296 by omega)
  obtain ⟨n, rfl⟩ := Int.eq_ofNat_of_zero_le h3
  rw [hm, show (m : Int) * 4294967296 = ((m * 4294967296 : Nat) : Int) from by omega, u64_or_nat _ _ (by omega) (by omega), nat_join 32 _ _ (by omega) (by omega)]
  omega

set_option maxHeartbeats 2000000 in
theorem prod_any (x y : Int) (hx0 : 0 ≤ x) (hx1 : x < 18446744073709551616) (hy0 : 0 ≤ y) (hy1 : y < 18446744073709551616) (w : World) :
    Calls Tryd.prog 22 #[.int .u64 x, .int .u64 y] w fun e w' => e = .returned (.tuple #[.int .u64 (x * y / 18446744073709551616), .int .u64 (x * y % 18446744073709551616)]) ∧ w = w' := by
  obtain ⟨a, b, c, d, ac, ad, bc, bd, ha, hb, hc, hd, hac, had, hbc, hbd, b1, b2, b3, b4, b5, b6, b7, b8, hxy⟩ := words hx0 hx1 hy0 hy1
  rw [hxy]
  have mb := and_mask x hx0 hx1
  have md := and_mask y hy0 hy1
  rw [hb] at mb
  rw [hd] at md
  have ml := and_mask bd b7 (by omega)
  have mm := and_mask (ad + bd / 4294967296) (by omega) (by omega)
  have mo := or_words (bc + (ad + bd / 4294967296) % 4294967296) (bd % 4294967296) (by omega) (by omega)
  have HO := hid mo
  clear mo hxy hb hd
  go_enter Tryd.func22, Tryd.ntmps22
  go_wp2
  go_ret2
  exact ⟨ret_two (by omega) (HO.out.trans (by omega)), rfl⟩

theorem or_48 (h s : Int) (h1 : 0 ≤ h) (h2 : h < 65536) (h3 : 0 ≤ s) (h4 : s < 18446744073709551616) : bits .or .u64 (h * 281474976710656) (s / 65536) = h * 281474976710656 + s / 65536 := by
  obtain ⟨m, rfl⟩ := Int.eq_ofNat_of_zero_le h1
  obtain ⟨n, hn⟩ := Int.eq_ofNat_of_zero_le (show 0 ≤ s / 65536 by omega)
  rw [hn, show (m : Int) * 281474976710656 = ((m * 281474976710656 : Nat) : Int) from by omega, u64_or_nat _ _ (by omega) (by omega), nat_join 48 _ _ (by omega) (by omega)]
  omega
theorem wrap_over (l : Int) (h1 : 18446744073709551616 ≤ l + 32768) (h2 : l < 18446744073709551616) : IntKind.u64.wrap (l + 32768) = l + 32768 - 18446744073709551616 := by
  rw [show IntKind.u64.wrap (l + 32768) = (l + 32768) % 18446744073709551616 from by simp [IntKind.wrap, IntKind.bits, IntKind.signed]]
  omega
theorem abs_mul_bound {a b : Int} (h1 : -9223372036854775808 ≤ a) (h2 : a ≤ 9223372036854775807) (h3 : -9223372036854775808 ≤ b) (h4 : b ≤ 9223372036854775807) :
    0 ≤ absI a * absI b ∧ absI a * absI b / 18446744073709551616 ≤ 4611686018427387904 := by
  obtain ⟨a1, a2⟩ := absI_le h1 h2
  obtain ⟨b1, b2⟩ := absI_le h3 h4
  have := Int.mul_le_mul a2 b2 b1 (by omega)
  exact ⟨Int.mul_nonneg a1 b1, by omega⟩

set_option maxHeartbeats 2000000 in
theorem mul_any (a b : Int) (h1 : -9223372036854775808 ≤ a) (h2 : a ≤ 9223372036854775807) (h3 : -9223372036854775808 ≤ b) (h4 : b ≤ 9223372036854775807) (w : World) :
    Calls Tryd.prog 19 #[.int .i64 a, .int .i64 b] w fun e w' => e = .returned (.int .i64 (mulI a b)) ∧ w = w' := by
  obtain ⟨p1, p2⟩ := abs_mul_bound h1 h2 h3 h4
  obtain ⟨a1, a2⟩ := absI_le h1 h2
  obtain ⟨b1, b2⟩ := absI_le h3 h4
  have HP : Hid (mulI a b = satI (negB a b) ((absI a * absI b + 32768) / 65536)) := hid rfl
  have hm : ∀ (z : World), Calls Tryd.prog 14 #[.int .i64 a] z fun e w' => e = .returned (.int .u64 (absI a)) ∧ z = w' := fun z => mag_any a h1 h2 z
  have hm2 : ∀ (z : World), Calls Tryd.prog 14 #[.int .i64 b] z fun e w' => e = .returned (.int .u64 (absI b)) ∧ z = w' := fun z => mag_any b h3 h4 z
  have HM := hid hm
  have HM2 := hid hm2
  clear hm hm2
  generalize absI a = A at *
  generalize absI b = B at *
  generalize hhi : A * B / 18446744073709551616 = hi at *
  generalize hlo : A * B % 18446744073709551616 = lo at *
  have l1 : 0 ≤ lo := by omega
  have l2 : lo < 18446744073709551616 := by omega
  have l3 : 0 ≤ hi := by omega
  have HQ : Hid (A * B = hi * 18446744073709551616 + lo) := hid (by omega)
  have hAB : ∀ z : World, Calls Tryd.prog 22 #[.int .u64 A, .int .u64 B] z fun e w' => e = .returned (.tuple #[.int .u64 hi, .int .u64 lo]) ∧ z = w' := fun z => by
    have := prod_any A B a1 (by omega) b1 (by omega) z
    rw [hhi, hlo] at this
    exact this
  have HAB := hid hAB
  clear hAB hhi hlo p1
  by_cases hov : 18446744073709551616 ≤ lo + 32768
  · have hw := wrap_over lo hov l2
    generalize hs : lo + 32768 - 18446744073709551616 = s at *
    have s1 : 0 ≤ s := by omega
    have s2 : s < 32768 := by omega
    have s3 : s < lo := by omega
    have HS := hid hs
    clear hs
    by_cases hbig : 65536 ≤ hi + 1
    · go_enter Tryd.func19, Tryd.ntmps19
      go_wp2_with (first
        | (go_at_call 14; (with_reducible refine (HM.out _).mono ?_); rintro e w' ⟨rfl, rfl⟩)
        | (go_at_call 14; (with_reducible refine (HM2.out _).mono ?_); rintro e w' ⟨rfl, rfl⟩)
        | (go_at_call 22; refine (HAB.out _).mono ?_; rintro e w' ⟨rfl, rfl⟩)
        | (go_at_call 10; refine (sat_any _ _ (by omega) (by omega) _).mono ?_; rintro e w' ⟨rfl, rfl⟩))
      go_ret
      exact ⟨ret_int (by rw [HP.out]; exact sat_big (by omega) (by have := HQ.out; have := HS.out; omega)), rfl⟩
    · have ho := or_48 (hi + 1) s (by omega) (by omega) s1 (by omega)
      have hsm : hi + 1 < 65536 := by omega
      clear hbig
      go_enter Tryd.func19, Tryd.ntmps19
      go_wp2_with (first
        | (go_at_call 14; (with_reducible refine (HM.out _).mono ?_); rintro e w' ⟨rfl, rfl⟩)
        | (go_at_call 14; (with_reducible refine (HM2.out _).mono ?_); rintro e w' ⟨rfl, rfl⟩)
        | (go_at_call 22; refine (HAB.out _).mono ?_; rintro e w' ⟨rfl, rfl⟩)
        | (go_at_call 10; refine (sat_any _ _ (by omega) (by omega) _).mono ?_; rintro e w' ⟨rfl, rfl⟩))
      go_ret
      exact ⟨ret_int (by rw [HP.out]; exact sat_eq_of (by have := HQ.out; have := HS.out; omega)), rfl⟩
  · have hov' : lo + 32768 < 18446744073709551616 := by omega
    clear hov
    by_cases hbig : 65536 ≤ hi
    · go_enter Tryd.func19, Tryd.ntmps19
      go_wp2_with (first
        | (go_at_call 14; (with_reducible refine (HM.out _).mono ?_); rintro e w' ⟨rfl, rfl⟩)
        | (go_at_call 14; (with_reducible refine (HM2.out _).mono ?_); rintro e w' ⟨rfl, rfl⟩)
        | (go_at_call 22; refine (HAB.out _).mono ?_; rintro e w' ⟨rfl, rfl⟩)
        | (go_at_call 10; refine (sat_any _ _ (by omega) (by omega) _).mono ?_; rintro e w' ⟨rfl, rfl⟩))
      go_ret
      exact ⟨ret_int (by rw [HP.out]; exact sat_big (by omega) (by have := HQ.out; omega)), rfl⟩
    · have ho := or_48 hi (lo + 32768) (by omega) (by omega) (by omega) hov'
      have hsm : hi < 65536 := by omega
      clear hbig
      go_enter Tryd.func19, Tryd.ntmps19
      go_wp2_with (first
        | (go_at_call 14; (with_reducible refine (HM.out _).mono ?_); rintro e w' ⟨rfl, rfl⟩)
        | (go_at_call 14; (with_reducible refine (HM2.out _).mono ?_); rintro e w' ⟨rfl, rfl⟩)
        | (go_at_call 22; refine (HAB.out _).mono ?_; rintro e w' ⟨rfl, rfl⟩)
        | (go_at_call 10; refine (sat_any _ _ (by omega) (by omega) _).mono ?_; rintro e w' ⟨rfl, rfl⟩))
      go_ret
      exact ⟨ret_int (by rw [HP.out]; exact sat_eq_of (by have := HQ.out; omega)), rfl⟩
theorem step_div {N Y bt : Int} (hY : 1 ≤ Y) (hb : bt = 0 ∨ bt = 1) :
    (Y ≤ 2 * (N % Y) + bt → (2 * N + bt) / Y = 2 * (N / Y) + 1 ∧ (2 * N + bt) % Y = 2 * (N % Y) + bt - Y) ∧ (2 * (N % Y) + bt < Y → (2 * N + bt) / Y = 2 * (N / Y) ∧ (2 * N + bt) % Y = 2 * (N % Y) + bt) := by
  have e := Int.mul_ediv_add_emod N Y
  have r1 := Int.emod_nonneg N (show Y ≠ 0 by omega)
  have r2 := Int.emod_lt_of_pos N (show 0 < Y by omega)
  generalize N / Y = Q at *
  generalize N % Y = R at *
  have key : ∀ q r : Int, 0 ≤ r → r < Y → 2 * N + bt = Y * q + r → (2 * N + bt) / Y = q ∧ (2 * N + bt) % Y = r := fun q r h1 h2 h3 => by
    rw [h3]
    constructor
    · rw [Int.mul_add_ediv_left _ _ (by omega), Int.ediv_eq_zero_of_lt h1 h2, Int.add_zero]
    · rw [Int.mul_add_emod_self_left, Int.emod_eq_of_lt h1 h2]
  have e2 : ∀ c : Int, Y * (2 * Q + c) = 2 * (Y * Q) + Y * c := fun c => by rw [Int.mul_add, Int.mul_left_comm]
  constructor
  · intro h
    exact key (2 * Q + 1) (2 * R + bt - Y) (by omega) (by omega) (by rw [e2]; omega)
  · intro h
    have := key (2 * Q + 0) (2 * R + bt) (by omega) (by omega) (by rw [e2]; omega)
    rwa [Int.add_zero] at this
theorem half_step (X m : Nat) : (X : Int) / 2 ^ m = 2 * ((X : Int) / 2 ^ (m + 1)) + (X : Int) / 2 ^ m % 2 := by
  have e : (X : Int) / 2 ^ (m + 1) = (X : Int) / 2 ^ m / 2 := by
    rw [Int.pow_succ, Int.ediv_ediv_of_nonneg (by have := two_pow_pos m; omega)]
  rw [e]
  omega
theorem bit_low (X m : Nat) (hm : m ≤ 63) : ((X : Int) % 18446744073709551616) / 2 ^ m % 2 = (X : Int) / 2 ^ m % 2 := by
  have e : (2 : Int) ^ m = ((2 ^ m : Nat) : Int) := by push_cast; rfl
  rw [e]
  have h : (X % 18446744073709551616) / 2 ^ m % 2 = X / 2 ^ m % 2 := by
    have e2 : 18446744073709551616 = 2 ^ m * 2 ^ (64 - m) := by rw [← Nat.pow_add, show m + (64 - m) = 64 from by omega]
    rw [e2, Nat.mod_mul_right_div_self]
    exact Nat.mod_mod_of_dvd _ ⟨2 ^ (63 - m), by rw [← Nat.pow_succ', show (63 - m).succ = 64 - m from by omega]⟩
  have h2 := congrArg (fun n : Nat => (n : Int)) h
  simp only [Int.natCast_emod, Int.natCast_ediv] at h2
  exact h2
theorem and_one (z : Int) (h1 : 0 ≤ z) (h2 : z < 18446744073709551616) : bits .and .u64 z 1 = z % 2 := by
  obtain ⟨m, rfl⟩ := Int.eq_ofNat_of_zero_le h1
  have e := u64_and_nat m 1 (by omega) (by omega)
  rw [show ((1 : Nat) : Int) = 1 from rfl] at e
  rw [e, nat_mask1]
  omega
theorem or_bit (r bt : Int) (h1 : 0 ≤ r) (h2 : r ≤ 9223372036854775807) (hb : bt = 0 ∨ bt = 1) : bits .or .u64 (r * 2) bt = r * 2 + bt := by
  obtain ⟨m, rfl⟩ := Int.eq_ofNat_of_zero_le h1
  obtain ⟨n, rfl⟩ := Int.eq_ofNat_of_zero_le (show 0 ≤ bt by omega)
  rw [show (m : Int) * 2 = ((m * 2 : Nat) : Int) from by omega, u64_or_nat _ _ (by omega) (by omega), nat_join 1 _ _ (by omega) (by omega)]
  omega
theorem or_pow (c : Int) (m : Nat) (hc : 0 ≤ c) (hb : c * 2 ^ (m + 1) + 2 ^ m < 18446744073709551616) : bits .or .u64 (c * 2 ^ (m + 1)) (2 ^ m) = c * 2 ^ (m + 1) + 2 ^ m := by
  obtain ⟨n, rfl⟩ := Int.eq_ofNat_of_zero_le hc
  have e : ((2 : Int) ^ m) = ((2 ^ m : Nat) : Int) := by push_cast; rfl
  have e2 : ((2 : Int) ^ (m + 1)) = ((2 ^ (m + 1) : Nat) : Int) := by push_cast; rfl
  rw [e, e2, ← Int.natCast_mul] at hb ⊢
  have hp := Nat.two_pow_pos m
  rw [u64_or_nat _ _ (by omega) (by omega), nat_join (m + 1) _ _ (Nat.mul_mod_left _ _) (by rw [Nat.pow_succ]; omega)]
  omega

/-- the state of the long division with j bits to come -/
structure Longd (X Y : Int) (j : Nat) (r q : Int) : Prop where
  r : r = X / 2 ^ j % Y
  q : q = X / 2 ^ j / Y * 2 ^ j
theorem longd_q {X Y r q : Int} {j : Nat} (h : Longd X Y j r q) (hX : 0 ≤ X) (hY : 1 ≤ Y) : 0 ≤ q ∧ q ≤ X / Y ∧ 0 ≤ r ∧ r < Y := by
  have hp := two_pow_pos j
  have h1 : 0 ≤ X / 2 ^ j := Int.ediv_nonneg hX (by omega)
  refine ⟨?_, ?_, ?_, ?_⟩
  · rw [h.q]; exact Int.mul_nonneg (Int.ediv_nonneg h1 (by omega)) (by omega)
  · rw [h.q, Int.ediv_ediv_of_nonneg (by omega), Int.mul_comm (2 ^ j) Y, ← Int.ediv_ediv_of_nonneg (by omega)]
    exact Int.ediv_mul_le _ (by omega)
  · rw [h.r]; exact Int.emod_nonneg _ (by omega)
  · rw [h.r]; exact Int.emod_lt_of_pos _ (by omega)
theorem longd_start {X Y : Int} (h : X / 18446744073709551616 < Y) (hX : 0 ≤ X) : Longd X Y 64 (X / 18446744073709551616) 0 := by
  have e : (2 : Int) ^ 64 = 18446744073709551616 := by decide
  have h0 : 0 ≤ X / 18446744073709551616 := Int.ediv_nonneg hX (by decide)
  constructor
  · rw [e, Int.emod_eq_of_lt h0 h]
  · rw [e, Int.ediv_eq_zero_of_lt h0 h, Int.zero_mul]
theorem longd_step {X : Nat} {Y r q : Int} {m : Nat} (h : Longd X Y (m + 1) r q) (hY : 1 ≤ Y) :
    (Y ≤ r * 2 + (X : Int) / 2 ^ m % 2 → Longd X Y m (r * 2 + (X : Int) / 2 ^ m % 2 - Y) (q + 2 ^ m)) ∧ (r * 2 + (X : Int) / 2 ^ m % 2 < Y → Longd X Y m (r * 2 + (X : Int) / 2 ^ m % 2) q) := by
  have hs := half_step X m
  have hd := step_div (N := (X : Int) / 2 ^ (m + 1)) (Y := Y) (bt := (X : Int) / 2 ^ m % 2) hY (by omega)
  rw [← hs, ← h.r] at hd
  have hq := h.q
  have e : ∀ c : Int, c * 2 ^ (m + 1) = 2 * c * 2 ^ m := fun c => by rw [Int.pow_succ, Int.mul_comm 2 c, Int.mul_assoc, Int.mul_comm 2]
  rw [e] at hq
  constructor
  · intro hh
    obtain ⟨d1, d2⟩ := hd.1 (by omega)
    refine ⟨by rw [d2]; omega, ?_⟩
    rw [d1, Int.add_mul, Int.one_mul, hq]
  · intro hh
    obtain ⟨d1, d2⟩ := hd.2 (by omega)
    exact ⟨by rw [d2]; omega, by rw [d1, hq]⟩
theorem longd_end {X Y r q : Int} (h : Longd X Y 0 r q) : r = X % Y ∧ q = X / Y := by
  have h1 := h.r
  have h2 := h.q
  simp only [Int.pow_zero, Int.ediv_one, Int.mul_one] at h1 h2
  exact ⟨h1, h2⟩

theorem abs_zero {b : Int} (h : b ≠ 0) : 1 ≤ absI b := by unfold absI; split <;> omega
theorem ret_pair {k k' : IntKind} {a a' b b' : Int} (h1 : a = a') (h2 : b = b') : Ending.returned (.tuple #[.int k a, .int k' b]) = .returned (.tuple #[.int k a', .int k' b']) := by rw [h1, h2]
/-- the result of a division by b ≠ 0 -/
theorem div_fin {a b : Int} (hb : b ≠ 0) (neg : Bool) (v : Int) (hn : neg = negB a b) (hv : v = quoI (absI a) (absI b) ∨ (140737488355328 ≤ v ∧ 140737488355328 ≤ quoI (absI a) (absI b))) : satI neg v = divI a b := by
  unfold divI
  rw [if_neg hb, hn]
  rcases hv with hv | hv
  · rw [hv]
  · exact sat_big hv.1 hv.2
theorem quo_ge {x y : Int} (c : Int) (h : c ≤ x * 65536 / y) : c ≤ quoI x y := by unfold quoI; split <;> omega

theorem div_zero (a : Int) (w : World) : Calls Tryd.prog 18 #[.int .i64 a, .int .i64 0] w fun e w' => e = .returned (.tuple #[.int .i64 (divI a 0), .int .i64 (divE 0)]) ∧ w = w' := by
  go_enter Tryd.func18, Tryd.ntmps18
  go_wp2
  go_ret2
  exact ⟨ret_pair rfl rfl, rfl⟩
set_option maxHeartbeats 2000000 in
theorem div_over (a b A Y : Int) (hA : ∀ z : World, Calls Tryd.prog 14 #[.int .i64 a] z fun e w' => e = .returned (.int .u64 A) ∧ z = w') (hB : ∀ z : World, Calls Tryd.prog 14 #[.int .i64 b] z fun e w' => e = .returned (.int .u64 Y) ∧ z = w')
    (b0 : (b == 0) = false) (_a1 : 0 ≤ A) (_a2 : A ≤ 9223372036854775808) (_y1 : 1 ≤ Y) (_y2 : Y ≤ 9223372036854775808) (hlt : Y ≤ A / 281474976710656) (hfin : Hid (satI (negB a b) 140737488355328 = divI a b ∧ divE b = 0)) (w : World) :
    Calls Tryd.prog 18 #[.int .i64 a, .int .i64 b] w fun e w' => e = .returned (.tuple #[.int .i64 (divI a b), .int .i64 (divE b)]) ∧ w = w' := by
  have HA := hid hA
  have HB := hid hB
  clear hA hB
  go_enter Tryd.func18, Tryd.ntmps18
  go_wp2_with (first
      | (go_at_call 14; (with_reducible refine (HA.out _).mono ?_); rintro e w' ⟨rfl, rfl⟩)
      | (go_at_call 14; (with_reducible refine (HB.out _).mono ?_); rintro e w' ⟨rfl, rfl⟩)
      | (go_at_call 10; refine (sat_any _ _ (by omega) (by omega) _).mono ?_; rintro e w' ⟨rfl, rfl⟩))
  go_ret2
  exact ⟨ret_pair hfin.out.1 hfin.out.2.symm, rfl⟩

set_option maxHeartbeats 4000000 in
theorem div_core (a b : Int) (A : Nat) (Y : Int) (hA : ∀ z : World, Calls Tryd.prog 14 #[.int .i64 a] z fun e w' => e = .returned (.int .u64 A) ∧ z = w') (hB : ∀ z : World, Calls Tryd.prog 14 #[.int .i64 b] z fun e w' => e = .returned (.int .u64 Y) ∧ z = w')
    (b0 : (b == 0) = false) (a2 : (A : Int) ≤ 9223372036854775808) (y1 : 1 ≤ Y) (y2 : Y ≤ 9223372036854775808) (hlt : (A : Int) / 281474976710656 < Y)
    (hfin : Hid (∀ (neg : Bool) (v : Int), neg = negB a b → (v = ((A * 65536 : Nat) : Int) / Y + (if Y - ((A * 65536 : Nat) : Int) % Y ≤ ((A * 65536 : Nat) : Int) % Y then 1 else 0) ∨ (140737488355328 ≤ v ∧ 140737488355328 ≤ ((A * 65536 : Nat) : Int) / Y)) → satI neg v = divI a b)) (hE : Hid (divE b = 0)) (w : World) :
    Calls Tryd.prog 18 #[.int .i64 a, .int .i64 b] w fun e w' => e = .returned (.tuple #[.int .i64 (divI a b), .int .i64 (divE b)]) ∧ w = w' := by
  have HA := hid hA
  have HB := hid hB
  clear hA hB
  have ex : (A : Int) / 281474976710656 = ((A * 65536 : Nat) : Int) / 18446744073709551616 := by omega
  have el : IntKind.u64.wrap ((A : Int) * 65536) = ((A * 65536 : Nat) : Int) % 18446744073709551616 := by
    rw [show IntKind.u64.wrap ((A : Int) * 65536) = ((A : Int) * 65536) % 18446744073709551616 from by simp [IntKind.wrap, IntKind.bits, IntKind.signed]]
    omega
  have hst : Longd ((A * 65536 : Nat) : Int) Y 64 (((A * 65536 : Nat) : Int) / 18446744073709551616) 0 := longd_start (by omega) (by omega)
  have hXY : ((A * 65536 : Nat) : Int) / Y < 18446744073709551616 := by
    refine Int.ediv_lt_of_lt_mul (by omega) ?_
    have : 18446744073709551616 * (((A * 65536 : Nat) : Int) / 18446744073709551616 + 1) ≤ 18446744073709551616 * Y := Int.mul_le_mul_of_nonneg_left (by omega) (by decide)
    omega
  generalize A * 65536 = X at *
  generalize hlo : (X : Int) % 18446744073709551616 = lo at *
  have l1 : 0 ≤ lo := by omega
  have l2 : lo < 18446744073709551616 := by omega
  have HLO := hid hlo
  have HXY := hid hXY
  have HST := hid hst
  clear hst hXY hlo
  go_enter Tryd.func18, Tryd.ntmps18
  go_wp2_with (first
      | (go_at_call 14; (with_reducible refine (HA.out _).mono ?_); rintro e w' ⟨rfl, rfl⟩)
      | (go_at_call 14; (with_reducible refine (HB.out _).mono ?_); rintro e w' ⟨rfl, rfl⟩)
      | (go_at_call 10; refine (sat_any _ _ (by omega) (by omega) _).mono ?_; rintro e w' ⟨rfl, rfl⟩))
  clear ex
  go_loop [9, 11, 12] (fun x q i => ∃ (j : Nat) (r c iv : Int), j ≤ 64 ∧ 0 ≤ r ∧ r < Y ∧ Hid (Longd X Y j r c) ∧ Hid (iv = (j : Int) - 1) ∧ i = .int .i64 iv ∧ x = .int .u64 r ∧ q = .int .u64 c) (fun _ _ i => (intOf i + 1).toNat)
  case atStart =>
    obtain ⟨q1, q2, q3, q4⟩ := longd_q HST.out (by omega) y1
    exact ⟨64, _, 0, 63, by omega, q3, q4, HST, hid (by decide), rfl, rfl, rfl⟩
  case round =>
    obtain ⟨j, r, c, iv, hj, hr0, hr1, HH, hiv, rfl, rfl, rfl⟩ := hrel
    obtain ⟨q1, q2, _, _⟩ := longd_q HH.out (by omega) y1
    have q3 : c < 18446744073709551616 := by have := HXY.out; omega
    clear q2
    cases j with
    | zero =>
      obtain rfl : iv = -1 := by have := hiv.out; omega
      obtain ⟨e1, e2⟩ := longd_end HH.out
      have E1 := hid e1
      have E2 := hid e2
      clear e1 e2
      by_cases t1 : Y - r ≤ r
      · by_cases t2 : c < 140737488355328
        · go_wp2_with (first
      | (go_at_call 14; (with_reducible refine (HA.out _).mono ?_); rintro e w' ⟨rfl, rfl⟩)
      | (go_at_call 14; (with_reducible refine (HB.out _).mono ?_); rintro e w' ⟨rfl, rfl⟩)
      | (go_at_call 10; refine (sat_any _ _ (by omega) (by omega) _).mono ?_; rintro e w' ⟨rfl, rfl⟩))
          go_ret2
          exact ⟨ret_pair (hfin.out _ _ rfl (Or.inl (by rw [← E1.out, if_pos t1, ← E2.out]))) hE.out.symm, rfl⟩
        · go_wp2_with (first
      | (go_at_call 14; (with_reducible refine (HA.out _).mono ?_); rintro e w' ⟨rfl, rfl⟩)
      | (go_at_call 14; (with_reducible refine (HB.out _).mono ?_); rintro e w' ⟨rfl, rfl⟩)
      | (go_at_call 10; refine (sat_any _ _ (by omega) (by omega) _).mono ?_; rintro e w' ⟨rfl, rfl⟩))
          go_ret2
          exact ⟨ret_pair (hfin.out _ _ rfl (Or.inr ⟨by omega, by rw [← E2.out]; omega⟩)) hE.out.symm, rfl⟩
      · go_wp2_with (first
      | (go_at_call 14; (with_reducible refine (HA.out _).mono ?_); rintro e w' ⟨rfl, rfl⟩)
      | (go_at_call 14; (with_reducible refine (HB.out _).mono ?_); rintro e w' ⟨rfl, rfl⟩)
      | (go_at_call 10; refine (sat_any _ _ (by omega) (by omega) _).mono ?_; rintro e w' ⟨rfl, rfl⟩))
        go_ret2
        exact ⟨ret_pair (hfin.out _ _ rfl (Or.inl (by rw [← E1.out, if_neg (by omega), ← E2.out]; omega))) hE.out.symm, rfl⟩
    | succ m =>
      obtain rfl : iv = (m : Int) := by have := hiv.out; omega
      have hp := two_pow_pos m
      have hst := longd_step HH.out y1
      have hb01 : (X : Int) / 2 ^ m % 2 = 0 ∨ (X : Int) / 2 ^ m % 2 = 1 := by omega
      have hlp : 0 ≤ lo / 2 ^ m ∧ lo / 2 ^ m ≤ lo := ⟨Int.ediv_nonneg l1 (by omega), Int.ediv_le_self _ l1⟩
      have rb := and_one (lo / 2 ^ m) hlp.1 (by omega)
      have hbl := bit_low X m (by omega)
      rw [HLO.out] at hbl
      rw [hbl] at rb
      generalize hbt : (X : Int) / 2 ^ m % 2 = bt at *
      have ro := or_bit r bt hr0 (by omega) hb01
      have bt0 : 0 ≤ bt := by omega
      have bt1 : bt ≤ 1 := by omega
      have hcar : (r / 9223372036854775808 == 1) = false := by
        have : r / 9223372036854775808 = 0 := by omega
        rw [this]; rfl
      have HC := HH.out.q
      have N0 : 0 ≤ (X : Int) / 2 ^ (m + 1) / Y := Int.ediv_nonneg (Int.ediv_nonneg (by omega) (by have := two_pow_pos (m + 1); omega)) (by omega)
      clear hbl hbt hlp hb01
      by_cases t : Y ≤ r * 2 + bt
      · have st := hst.1 t
        obtain ⟨s1, s2, s3, s4⟩ := longd_q st (by omega) y1
        have s5 : c + 2 ^ m < 18446744073709551616 := by have := HXY.out; omega
        have rq : bits .or .u64 c (2 ^ m) = c + 2 ^ m := by
          rw [HC] at s5 ⊢
          exact or_pow _ m N0 s5
        have ST := hid st
        clear st hst s1 s2 HC N0
        generalize hP : (2 : Int) ^ m = p at *
        go_wp2_with (first
      | (go_at_call 14; (with_reducible refine (HA.out _).mono ?_); rintro e w' ⟨rfl, rfl⟩)
      | (go_at_call 14; (with_reducible refine (HB.out _).mono ?_); rintro e w' ⟨rfl, rfl⟩)
      | (go_at_call 10; refine (sat_any _ _ (by omega) (by omega) _).mono ?_; rintro e w' ⟨rfl, rfl⟩))
        go_round
        case rel => exact ⟨m, r * 2 + bt - Y, c + p, (m : Int) - 1, by omega, s3, s4, ST, hid rfl, rfl, rfl, rfl⟩
        case measure => simp [intOf]
      · have t' : r * 2 + bt < Y := by omega
        have st := hst.2 t'
        have ST := hid st
        clear st hst HC N0 t
        generalize hP : (2 : Int) ^ m = p at *
        go_wp2_with (first
      | (go_at_call 14; (with_reducible refine (HA.out _).mono ?_); rintro e w' ⟨rfl, rfl⟩)
      | (go_at_call 14; (with_reducible refine (HB.out _).mono ?_); rintro e w' ⟨rfl, rfl⟩)
      | (go_at_call 10; refine (sat_any _ _ (by omega) (by omega) _).mono ?_; rintro e w' ⟨rfl, rfl⟩))
        go_round
        case rel => exact ⟨m, r * 2 + bt, c, (m : Int) - 1, by omega, by omega, t', ST, hid rfl, rfl, rfl, rfl⟩
        case measure => simp [intOf]
theorem divE_nz {b : Int} (h : b ≠ 0) : divE b = 0 := by unfold divE; rw [if_neg h]
theorem div_any (a b : Int) (h1 : -9223372036854775808 ≤ a) (h2 : a ≤ 9223372036854775807) (h3 : -9223372036854775808 ≤ b) (h4 : b ≤ 9223372036854775807) (w : World) :
    Calls Tryd.prog 18 #[.int .i64 a, .int .i64 b] w fun e w' => e = .returned (.tuple #[.int .i64 (divI a b), .int .i64 (divE b)]) ∧ w = w' := by
  by_cases hb : b = 0
  · subst hb
    exact div_zero a w
  · obtain ⟨a1, a2⟩ := absI_le h1 h2
    obtain ⟨b1, b2⟩ := absI_le h3 h4
    have y1 := abs_zero hb
    have b0 : (b == 0) = false := by simpa using hb
    rcases Int.lt_or_le (absI a / 281474976710656) (absI b) with hlt | hge
    · obtain ⟨A, hA⟩ := Int.eq_ofNat_of_zero_le a1
      have ec : ((A * 65536 : Nat) : Int) = absI a * 65536 := by rw [hA]; omega
      refine div_core a b A (absI b) (fun z => by rw [← hA]; exact mag_any a h1 h2 z) (fun z => mag_any b h3 h4 z) b0 (by omega) y1 b2 (by rw [← hA]; exact hlt) (hid ?_) (hid (divE_nz hb)) w
      rw [ec]
      intro neg v hn hv
      refine div_fin hb neg v hn ?_
      rcases hv with hv | hv
      · exact Or.inl hv
      · exact Or.inr ⟨hv.1, quo_ge _ hv.2⟩
    · refine div_over a b (absI a) (absI b) (fun z => mag_any a h1 h2 z) (fun z => mag_any b h3 h4 z) b0 a1 a2 y1 b2 hge (hid ⟨div_fin hb _ _ rfl (Or.inr ⟨by omega, quo_ge _ ?_⟩), divE_nz hb⟩) w
      refine (Int.le_ediv_iff_mul_le (by omega)).2 ?_
      have : 140737488355328 * absI b ≤ 140737488355328 * (absI a / 281474976710656) := Int.mul_le_mul_of_nonneg_left hge (by decide)
      omega

theorem ex1 : divI 1 3 = 21845 := by decide
theorem ex2 : divE 3 = 0 := by decide
theorem ex3 : mulI 98304 (-1) = -2 := by decide
theorem ex4 : isq 99 = 9 := by decide
theorem ex5 : isq (sqr 3 (-4)) = 5 := by decide
set_option maxHeartbeats 2000000 in
theorem awake_any (w : World) : Calls Tryd.prog 8 #[] w fun e w' => e = .returned (.bool true) ∧ Below w.heap.size w w' := by
  have e1 := ex1
  have e2 := ex2
  have e3 := ex3
  have e4 := ex4
  have e5 := ex5
  go_enter Tryd.func8, Tryd.ntmps8
  go_wp2_with (first
    | (go_at_call 18; refine (div_any _ _ (by omega) (by omega) (by omega) (by omega) _).mono ?_; rintro e w' ⟨rfl, rfl⟩)
    | (go_at_call 19; refine (mul_any _ _ (by omega) (by omega) (by omega) (by omega) _).mono ?_; rintro e w' ⟨rfl, rfl⟩)
    | (go_at_call 20; refine (root_any _ (by omega) _).mono ?_; rintro e w' ⟨rfl, rfl⟩)
    | (go_at_call 21; refine (length_any _ _ (by omega) (by omega) (by omega) (by omega) _).mono ?_; rintro e w' ⟨rfl, hb⟩))
  go_ret
  exact ⟨rfl, hb⟩
end Go.Proofs.YteinfhfapelegaaDoor
