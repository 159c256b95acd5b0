import Derived.Test.YteinfhfapelegaaWd
namespace Go.Proofs.Yteinfhfapelegaa
open Go.RowKit

/-! long division, a bit at a time -/
theorem step_div {N Y bt : Int} (hY : 1 ≤ Y) (hb : bt = 0 ∨ bt = 1) :
    (Y ≤ 2 * (N % Y) + bt → (2 * N + bt) / Y = 2 * (N / Y) + 1 ∧ (2 * N + bt) % Y = 2 * (N % Y) + bt - Y) ∧ (2 * (N % Y) + bt < Y → (2 * N + bt) / Y = 2 * (N / Y) ∧ (2 * N + bt) % Y = 2 * (N % Y) + bt) := by
  have e := Int.mul_ediv_add_emod N Y
  have r1 := Int.emod_nonneg N (show Y ≠ 0 by omega)
  have r2 := Int.emod_lt_of_pos N (show 0 < Y by omega)
  generalize N / Y = Q at *
  generalize N % Y = R at *
  have key : ∀ q r : Int, 0 ≤ r → r < Y → 2 * N + bt = Y * q + r → (2 * N + bt) / Y = q ∧ (2 * N + bt) % Y = r := fun q r h1 h2 h3 => by
    rw [h3]
    constructor
    · rw [Int.mul_add_ediv_left _ _ (by omega), Int.ediv_eq_zero_of_lt h1 h2, Int.add_zero]
    · rw [Int.mul_add_emod_self_left, Int.emod_eq_of_lt h1 h2]
  have e2 : ∀ c : Int, Y * (2 * Q + c) = 2 * (Y * Q) + Y * c := fun c => by rw [Int.mul_add, Int.mul_left_comm]
  constructor
  · intro h
    exact key (2 * Q + 1) (2 * R + bt - Y) (by omega) (by omega) (by rw [e2]; omega)
  · intro h
    have := key (2 * Q + 0) (2 * R + bt) (by omega) (by omega) (by rw [e2]; omega)
    rwa [Int.add_zero] at this
theorem half_step (X m : Nat) : (X : Int) / 2 ^ m = 2 * ((X : Int) / 2 ^ (m + 1)) + (X : Int) / 2 ^ m % 2 := by
  have e : (X : Int) / 2 ^ (m + 1) = (X : Int) / 2 ^ m / 2 := by
    rw [Int.pow_succ, Int.ediv_ediv_of_nonneg (by have := two_pow_pos m; omega)]
  rw [e]
  omega
theorem bit_low (X m : Nat) (hm : m ≤ 63) : ((X : Int) % 18446744073709551616) / 2 ^ m % 2 = (X : Int) / 2 ^ m % 2 := by
  have e : (2 : Int) ^ m = ((2 ^ m : Nat) : Int) := by push_cast; rfl
  rw [e]
  have h : (X % 18446744073709551616) / 2 ^ m % 2 = X / 2 ^ m % 2 := by
    have e2 : 18446744073709551616 = 2 ^ m * 2 ^ (64 - m) := by rw [← Nat.pow_add, show m + (64 - m) = 64 from by omega]
    rw [e2, Nat.mod_mul_right_div_self]
    exact Nat.mod_mod_of_dvd _ ⟨2 ^ (63 - m), by rw [← Nat.pow_succ', show (63 - m).succ = 64 - m from by omega]⟩
  have h2 := congrArg (fun n : Nat => (n : Int)) h
  simp only [Int.natCast_emod, Int.natCast_ediv] at h2
  exact h2
theorem and_one (z : Int) (h1 : 0 ≤ z) (h2 : z < 18446744073709551616) : bits .and .u64 z 1 = z % 2 := by
  obtain ⟨m, rfl⟩ := Int.eq_ofNat_of_zero_le h1
  have e := u64_and_nat m 1 (by omega) (by omega)
  rw [show ((1 : Nat) : Int) = 1 from rfl] at e
  rw [e, nat_mask1]
  omega
theorem or_bit (r bt : Int) (h1 : 0 ≤ r) (h2 : r ≤ 9223372036854775807) (hb : bt = 0 ∨ bt = 1) : bits .or .u64 (r * 2) bt = r * 2 + bt := by
  obtain ⟨m, rfl⟩ := Int.eq_ofNat_of_zero_le h1
  obtain ⟨n, rfl⟩ := Int.eq_ofNat_of_zero_le (show 0 ≤ bt by omega)
  rw [show (m : Int) * 2 = ((m * 2 : Nat) : Int) from by omega, u64_or_nat _ _ (by omega) (by omega), nat_join 1 _ _ (by omega) (by omega)]
  omega
theorem or_pow (c : Int) (m : Nat) (hc : 0 ≤ c) (hb : c * 2 ^ (m + 1) + 2 ^ m < 18446744073709551616) : bits .or .u64 (c * 2 ^ (m + 1)) (2 ^ m) = c * 2 ^ (m + 1) + 2 ^ m := by
  obtain ⟨n, rfl⟩ := Int.eq_ofNat_of_zero_le hc
  have e : ((2 : Int) ^ m) = ((2 ^ m : Nat) : Int) := by push_cast; rfl
  have e2 : ((2 : Int) ^ (m + 1)) = ((2 ^ (m + 1) : Nat) : Int) := by push_cast; rfl
  rw [e, e2, ← Int.natCast_mul] at hb ⊢
  have hp := Nat.two_pow_pos m
  rw [u64_or_nat _ _ (by omega) (by omega), nat_join (m + 1) _ _ (Nat.mul_mod_left _ _) (by rw [Nat.pow_succ]; omega)]
  omega

/-- the state of the long division with j bits to come -/
structure Longd (X Y : Int) (j : Nat) (r q : Int) : Prop where
  r : r = X / 2 ^ j % Y
  q : q = X / 2 ^ j / Y * 2 ^ j
theorem longd_q {X Y r q : Int} {j : Nat} (h : Longd X Y j r q) (hX : 0 ≤ X) (hY : 1 ≤ Y) : 0 ≤ q ∧ q ≤ X / Y ∧ 0 ≤ r ∧ r < Y := by
  have hp := two_pow_pos j
  have h1 : 0 ≤ X / 2 ^ j := Int.ediv_nonneg hX (by omega)
  refine ⟨?_, ?_, ?_, ?_⟩
  · rw [h.q]; exact Int.mul_nonneg (Int.ediv_nonneg h1 (by omega)) (by omega)
  · rw [h.q, Int.ediv_ediv_of_nonneg (by omega), Int.mul_comm (2 ^ j) Y, ← Int.ediv_ediv_of_nonneg (by omega)]
    exact Int.ediv_mul_le _ (by omega)
  · rw [h.r]; exact Int.emod_nonneg _ (by omega)
  · rw [h.r]; exact Int.emod_lt_of_pos _ (by omega)
theorem longd_start {X Y : Int} (h : X / 18446744073709551616 < Y) (hX : 0 ≤ X) : Longd X Y 64 (X / 18446744073709551616) 0 := by
  have e : (2 : Int) ^ 64 = 18446744073709551616 := by decide
  have h0 : 0 ≤ X / 18446744073709551616 := Int.ediv_nonneg hX (by decide)
  constructor
  · rw [e, Int.emod_eq_of_lt h0 h]
  · rw [e, Int.ediv_eq_zero_of_lt h0 h, Int.zero_mul]
theorem longd_step {X : Nat} {Y r q : Int} {m : Nat} (h : Longd X Y (m + 1) r q) (hY : 1 ≤ Y) :
    (Y ≤ r * 2 + (X : Int) / 2 ^ m % 2 → Longd X Y m (r * 2 + (X : Int) / 2 ^ m % 2 - Y) (q + 2 ^ m)) ∧ (r * 2 + (X : Int) / 2 ^ m % 2 < Y → Longd X Y m (r * 2 + (X : Int) / 2 ^ m % 2) q) := by
  have hs := half_step X m
  have hd := step_div (N := (X : Int) / 2 ^ (m + 1)) (Y := Y) (bt := (X : Int) / 2 ^ m % 2) hY (by omega)
  rw [← hs, ← h.r] at hd
  have hq := h.q
  have e : ∀ c : Int, c * 2 ^ (m + 1) = 2 * c * 2 ^ m := fun c => by rw [Int.pow_succ, Int.mul_comm 2 c, Int.mul_assoc, Int.mul_comm 2]
  rw [e] at hq
  constructor
  · intro hh
    obtain ⟨d1, d2⟩ := hd.1 (by omega)
    refine ⟨by rw [d2]; omega, ?_⟩
    rw [d1, Int.add_mul, Int.one_mul, hq]
  · intro hh
    obtain ⟨d1, d2⟩ := hd.2 (by omega)
    exact ⟨by rw [d2]; omega, by rw [d1, hq]⟩
theorem longd_end {X Y r q : Int} (h : Longd X Y 0 r q) : r = X % Y ∧ q = X / Y := by
  have h1 := h.r
  have h2 := h.q
  simp only [Int.pow_zero, Int.ediv_one, Int.mul_one] at h1 h2
  exact ⟨h1, h2⟩

theorem abs_zero {b : Int} (h : b ≠ 0) : 1 ≤ absI b := by unfold absI; split <;> omega
theorem ret_pair {k k' : IntKind} {a a' b b' : Int} (h1 : a = a') (h2 : b = b') : Ending.returned (.tuple #[.int k a, .int k' b]) = .returned (.tuple #[.int k a', .int k' b']) := by rw [h1, h2]
/-- the result of a division by b ≠ 0 -/
theorem div_fin {a b : Int} (hb : b ≠ 0) (neg : Bool) (v : Int) (hn : neg = negB a b) (hv : v = quoI (absI a) (absI b) ∨ (140737488355328 ≤ v ∧ 140737488355328 ≤ quoI (absI a) (absI b))) : satI neg v = divI a b := by
  unfold divI
  rw [if_neg hb, hn]
  rcases hv with hv | hv
  · rw [hv]
  · exact sat_big hv.1 hv.2
theorem quo_ge {x y : Int} (c : Int) (h : c ≤ x * 65536 / y) : c ≤ quoI x y := by unfold quoI; split <;> omega

theorem div_zero (a : Int) (w : World) : Calls Try.prog 8 #[.int .i64 a, .int .i64 0] w fun e w' => e = .returned (.tuple #[.int .i64 (divI a 0), .int .i64 (divE 0)]) ∧ w = w' := by
  go_enter Try.func8, Try.ntmps8
  go_wp2
  go_ret2
  exact ⟨ret_pair rfl rfl, rfl⟩
theorem rdiv_zero (a : Int) (w : World) : Calls Try.prog 9 #[.int .i64 a, .int .i64 0] w fun e w' => e = .returned (.tuple #[.int .i64 (divI a 0), .int .i64 (divE 0)]) ∧ w = w' := by
  go_enter Try.func9, Try.ntmps9
  go_wp2
  go_ret2
  exact ⟨ret_pair rfl rfl, rfl⟩

set_option maxHeartbeats 2000000 in
theorem div_over (a b A Y : Int) (hA : ∀ z : World, Calls Try.prog 31 #[.int .i64 a] z fun e w' => e = .returned (.int .u64 A) ∧ z = w') (hB : ∀ z : World, Calls Try.prog 31 #[.int .i64 b] z fun e w' => e = .returned (.int .u64 Y) ∧ z = w')
    (b0 : (b == 0) = false) (_a1 : 0 ≤ A) (_a2 : A ≤ 9223372036854775808) (_y1 : 1 ≤ Y) (_y2 : Y ≤ 9223372036854775808) (hlt : Y ≤ A / 281474976710656) (hfin : Hid (satI (negB a b) 140737488355328 = divI a b ∧ divE b = 0)) (w : World) :
    Calls Try.prog 8 #[.int .i64 a, .int .i64 b] w fun e w' => e = .returned (.tuple #[.int .i64 (divI a b), .int .i64 (divE b)]) ∧ w = w' := by
  have HA := hid hA
  have HB := hid hB
  clear hA hB
  go_enter Try.func8, Try.ntmps8
  go_wp2_with (first
      | (go_at_call 31; (with_reducible refine (HA.out _).mono ?_); rintro e w' ⟨rfl, rfl⟩)
      | (go_at_call 31; (with_reducible refine (HB.out _).mono ?_); rintro e w' ⟨rfl, rfl⟩)
      | (go_at_call 32; refine (sat_any _ _ (by omega) (by omega) _).mono ?_; rintro e w' ⟨rfl, rfl⟩))
  go_ret2
  exact ⟨ret_pair hfin.out.1 hfin.out.2.symm, rfl⟩

set_option maxHeartbeats 4000000 in
theorem div_core (a b : Int) (A : Nat) (Y : Int) (hA : ∀ z : World, Calls Try.prog 31 #[.int .i64 a] z fun e w' => e = .returned (.int .u64 A) ∧ z = w') (hB : ∀ z : World, Calls Try.prog 31 #[.int .i64 b] z fun e w' => e = .returned (.int .u64 Y) ∧ z = w')
    (b0 : (b == 0) = false) (a2 : (A : Int) ≤ 9223372036854775808) (y1 : 1 ≤ Y) (y2 : Y ≤ 9223372036854775808) (hlt : (A : Int) / 281474976710656 < Y)
    (hfin : Hid (∀ (neg : Bool) (v : Int), neg = negB a b → (v = ((A * 65536 : Nat) : Int) / Y + (if Y - ((A * 65536 : Nat) : Int) % Y ≤ ((A * 65536 : Nat) : Int) % Y then 1 else 0) ∨ (140737488355328 ≤ v ∧ 140737488355328 ≤ ((A * 65536 : Nat) : Int) / Y)) → satI neg v = divI a b)) (hE : Hid (divE b = 0)) (w : World) :
    Calls Try.prog 8 #[.int .i64 a, .int .i64 b] w fun e w' => e = .returned (.tuple #[.int .i64 (divI a b), .int .i64 (divE b)]) ∧ w = w' := by
  have HA := hid hA
  have HB := hid hB
  clear hA hB
  have ex : (A : Int) / 281474976710656 = ((A * 65536 : Nat) : Int) / 18446744073709551616 := by omega
  have el : IntKind.u64.wrap ((A : Int) * 65536) = ((A * 65536 : Nat) : Int) % 18446744073709551616 := by
    rw [show IntKind.u64.wrap ((A : Int) * 65536) = ((A : Int) * 65536) % 18446744073709551616 from by simp [IntKind.wrap, IntKind.bits, IntKind.signed]]
    omega
  have hst : Longd ((A * 65536 : Nat) : Int) Y 64 (((A * 65536 : Nat) : Int) / 18446744073709551616) 0 := longd_start (by omega) (by omega)
  have hXY : ((A * 65536 : Nat) : Int) / Y < 18446744073709551616 := by
    refine Int.ediv_lt_of_lt_mul (by omega) ?_
    have : 18446744073709551616 * (((A * 65536 : Nat) : Int) / 18446744073709551616 + 1) ≤ 18446744073709551616 * Y := Int.mul_le_mul_of_nonneg_left (by omega) (by decide)
    omega
  generalize A * 65536 = X at *
  generalize hlo : (X : Int) % 18446744073709551616 = lo at *
  have l1 : 0 ≤ lo := by omega
  have l2 : lo < 18446744073709551616 := by omega
  have HLO := hid hlo
  have HXY := hid hXY
  have HST := hid hst
  clear hst hXY hlo
  go_enter Try.func8, Try.ntmps8
  go_wp2_with (first
      | (go_at_call 31; (with_reducible refine (HA.out _).mono ?_); rintro e w' ⟨rfl, rfl⟩)
      | (go_at_call 31; (with_reducible refine (HB.out _).mono ?_); rintro e w' ⟨rfl, rfl⟩)
      | (go_at_call 32; refine (sat_any _ _ (by omega) (by omega) _).mono ?_; rintro e w' ⟨rfl, rfl⟩))
  clear ex
  go_loop [9, 11, 12] (fun x q i => ∃ (j : Nat) (r c iv : Int), j ≤ 64 ∧ 0 ≤ r ∧ r < Y ∧ Hid (Longd X Y j r c) ∧ Hid (iv = (j : Int) - 1) ∧ i = .int .i64 iv ∧ x = .int .u64 r ∧ q = .int .u64 c) (fun _ _ i => (intOf i + 1).toNat)
  case atStart =>
    obtain ⟨q1, q2, q3, q4⟩ := longd_q HST.out (by omega) y1
    exact ⟨64, _, 0, 63, by omega, q3, q4, HST, hid (by decide), rfl, rfl, rfl⟩
  case round =>
    obtain ⟨j, r, c, iv, hj, hr0, hr1, HH, hiv, rfl, rfl, rfl⟩ := hrel
    obtain ⟨q1, q2, _, _⟩ := longd_q HH.out (by omega) y1
    have q3 : c < 18446744073709551616 := by have := HXY.out; omega
    clear q2
    cases j with
    | zero =>
      obtain rfl : iv = -1 := by have := hiv.out; omega
      obtain ⟨e1, e2⟩ := longd_end HH.out
      have E1 := hid e1
      have E2 := hid e2
      clear e1 e2
      by_cases t1 : Y - r ≤ r
      · by_cases t2 : c < 140737488355328
        · go_wp2_with (first
      | (go_at_call 31; (with_reducible refine (HA.out _).mono ?_); rintro e w' ⟨rfl, rfl⟩)
      | (go_at_call 31; (with_reducible refine (HB.out _).mono ?_); rintro e w' ⟨rfl, rfl⟩)
      | (go_at_call 32; refine (sat_any _ _ (by omega) (by omega) _).mono ?_; rintro e w' ⟨rfl, rfl⟩))
          go_ret2
          exact ⟨ret_pair (hfin.out _ _ rfl (Or.inl (by rw [← E1.out, if_pos t1, ← E2.out]))) hE.out.symm, rfl⟩
        · go_wp2_with (first
      | (go_at_call 31; (with_reducible refine (HA.out _).mono ?_); rintro e w' ⟨rfl, rfl⟩)
      | (go_at_call 31; (with_reducible refine (HB.out _).mono ?_); rintro e w' ⟨rfl, rfl⟩)
      | (go_at_call 32; refine (sat_any _ _ (by omega) (by omega) _).mono ?_; rintro e w' ⟨rfl, rfl⟩))
          go_ret2
          exact ⟨ret_pair (hfin.out _ _ rfl (Or.inr ⟨by omega, by rw [← E2.out]; omega⟩)) hE.out.symm, rfl⟩
      · go_wp2_with (first
      | (go_at_call 31; (with_reducible refine (HA.out _).mono ?_); rintro e w' ⟨rfl, rfl⟩)
      | (go_at_call 31; (with_reducible refine (HB.out _).mono ?_); rintro e w' ⟨rfl, rfl⟩)
      | (go_at_call 32; refine (sat_any _ _ (by omega) (by omega) _).mono ?_; rintro e w' ⟨rfl, rfl⟩))
        go_ret2
        exact ⟨ret_pair (hfin.out _ _ rfl (Or.inl (by rw [← E1.out, if_neg (by omega), ← E2.out]; omega))) hE.out.symm, rfl⟩
    | succ m =>
      obtain rfl : iv = (m : Int) := by have := hiv.out; omega
      have hp := two_pow_pos m
      have hst := longd_step HH.out y1
      have hb01 : (X : Int) / 2 ^ m % 2 = 0 ∨ (X : Int) / 2 ^ m % 2 = 1 := by omega
      have hlp : 0 ≤ lo / 2 ^ m ∧ lo / 2 ^ m ≤ lo := ⟨Int.ediv_nonneg l1 (by omega), Int.ediv_le_self _ l1⟩
      have rb := and_one (lo / 2 ^ m) hlp.1 (by omega)
      have hbl := bit_low X m (by omega)
      rw [HLO.out] at hbl
      rw [hbl] at rb
      generalize hbt : (X : Int) / 2 ^ m % 2 = bt at *
      have ro := or_bit r bt hr0 (by omega) hb01
      have bt0 : 0 ≤ bt := by omega
      have bt1 : bt ≤ 1 := by omega
      have hcar : (r / 9223372036854775808 == 1) = false := by
        have : r / 9223372036854775808 = 0 := by omega
        rw [this]; rfl
      have HC := HH.out.q
      have N0 : 0 ≤ (X : Int) / 2 ^ (m + 1) / Y := Int.ediv_nonneg (Int.ediv_nonneg (by omega) (by have := two_pow_pos (m + 1); omega)) (by omega)
      clear hbl hbt hlp hb01
      by_cases t : Y ≤ r * 2 + bt
      · have st := hst.1 t
        obtain ⟨s1, s2, s3, s4⟩ := longd_q st (by omega) y1
        have s5 : c + 2 ^ m < 18446744073709551616 := by have := HXY.out; omega
        have rq : bits .or .u64 c (2 ^ m) = c + 2 ^ m := by
          rw [HC] at s5 ⊢
          exact or_pow _ m N0 s5
        have ST := hid st
        clear st hst s1 s2 HC N0
        generalize hP : (2 : Int) ^ m = p at *
        go_wp2_with (first
      | (go_at_call 31; (with_reducible refine (HA.out _).mono ?_); rintro e w' ⟨rfl, rfl⟩)
      | (go_at_call 31; (with_reducible refine (HB.out _).mono ?_); rintro e w' ⟨rfl, rfl⟩)
      | (go_at_call 32; refine (sat_any _ _ (by omega) (by omega) _).mono ?_; rintro e w' ⟨rfl, rfl⟩))
        go_round
        case rel => exact ⟨m, r * 2 + bt - Y, c + p, (m : Int) - 1, by omega, s3, s4, ST, hid rfl, rfl, rfl, rfl⟩
        case measure => simp [intOf]
      · have t' : r * 2 + bt < Y := by omega
        have st := hst.2 t'
        have ST := hid st
        clear st hst HC N0 t
        generalize hP : (2 : Int) ^ m = p at *
        go_wp2_with (first
      | (go_at_call 31; (with_reducible refine (HA.out _).mono ?_); rintro e w' ⟨rfl, rfl⟩)
      | (go_at_call 31; (with_reducible refine (HB.out _).mono ?_); rintro e w' ⟨rfl, rfl⟩)
      | (go_at_call 32; refine (sat_any _ _ (by omega) (by omega) _).mono ?_; rintro e w' ⟨rfl, rfl⟩))
        go_round
        case rel => exact ⟨m, r * 2 + bt, c, (m : Int) - 1, by omega, by omega, t', ST, hid rfl, rfl, rfl, rfl⟩
        case measure => simp [intOf]
end Go.Proofs.Yteinfhfapelegaa
