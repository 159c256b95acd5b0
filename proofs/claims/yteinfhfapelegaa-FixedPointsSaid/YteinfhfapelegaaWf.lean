import Derived.Test.YteinfhfapelegaaWe
namespace Go.Proofs.Yteinfhfapelegaa
open Go.RowKit

theorem divE_nz {b : Int} (h : b ≠ 0) : divE b = 0 := by unfold divE; rw [if_neg h]
theorem div_any (a b : Int) (h1 : -9223372036854775808 ≤ a) (h2 : a ≤ 9223372036854775807) (h3 : -9223372036854775808 ≤ b) (h4 : b ≤ 9223372036854775807) (w : World) :
    Calls Try.prog 8 #[.int .i64 a, .int .i64 b] w fun e w' => e = .returned (.tuple #[.int .i64 (divI a b), .int .i64 (divE b)]) ∧ w = w' := by
  by_cases hb : b = 0
  · subst hb
    exact div_zero a w
  · obtain ⟨a1, a2⟩ := absI_le h1 h2
    obtain ⟨b1, b2⟩ := absI_le h3 h4
    have y1 := abs_zero hb
    have b0 : (b == 0) = false := by simpa using hb
    rcases Int.lt_or_le (absI a / 281474976710656) (absI b) with hlt | hge
    · obtain ⟨A, hA⟩ := Int.eq_ofNat_of_zero_le a1
      have ec : ((A * 65536 : Nat) : Int) = absI a * 65536 := by rw [hA]; omega
      refine div_core a b A (absI b) (fun z => by rw [← hA]; exact mag_any a h1 h2 z) (fun z => mag_any b h3 h4 z) b0 (by omega) y1 b2 (by rw [← hA]; exact hlt) (hid ?_) (hid (divE_nz hb)) w
      rw [ec]
      intro neg v hn hv
      refine div_fin hb neg v hn ?_
      rcases hv with hv | hv
      · exact Or.inl hv
      · exact Or.inr ⟨hv.1, quo_ge _ hv.2⟩
    · refine div_over a b (absI a) (absI b) (fun z => mag_any a h1 h2 z) (fun z => mag_any b h3 h4 z) b0 a1 a2 y1 b2 hge (hid ⟨div_fin hb _ _ rfl (Or.inr ⟨by omega, quo_ge _ ?_⟩), divE_nz hb⟩) w
      refine (Int.le_ediv_iff_mul_le (by omega)).2 ?_
      have : 140737488355328 * absI b ≤ 140737488355328 * (absI a / 281474976710656) := Int.mul_le_mul_of_nonneg_left hge (by decide)
      omega

set_option maxHeartbeats 4000000 in
theorem rdiv_over (a b A Y : Int) (hA : ∀ z : World, Calls Try.prog 33 #[.int .i64 a] z fun e w' => e = .returned (.int .u64 A) ∧ z = w') (hB : ∀ z : World, Calls Try.prog 33 #[.int .i64 b] z fun e w' => e = .returned (.int .u64 Y) ∧ z = w')
    (b0 : (b == 0) = false) (a1 : 0 ≤ A) (a2 : A ≤ 9223372036854775808) (y1 : 1 ≤ Y) (_y2 : Y ≤ 9223372036854775808) (hge : 2147483648 ≤ A / Y) (hfin : Hid (satI (negB a b) 140737488355328 = divI a b ∧ divE b = 0)) (w : World) :
    Calls Try.prog 9 #[.int .i64 a, .int .i64 b] w fun e w' => e = .returned (.tuple #[.int .i64 (divI a b), .int .i64 (divE b)]) ∧ Below w.heap.size w w' := by
  have HA := hid hA
  have HB := hid hB
  clear hA hB
  have y0 : (Y == 0) = false := by
    have : Y ≠ 0 := by omega
    simpa using this
  go_enter Try.func9, Try.ntmps9
  go_wp2_with (first
      | (go_at_call 33; (with_reducible refine (HA.out _).mono ?_); rintro e w' ⟨rfl, rfl⟩)
      | (go_at_call 33; (with_reducible refine (HB.out _).mono ?_); rintro e w' ⟨rfl, rfl⟩)
      | (go_at_call 34; refine (rsat_any _ _ (by omega) (by omega) _).mono ?_; rintro e w' ⟨rfl, rfl⟩))
  go_quiet (fail)
  go_wp2_with (first
      | (go_at_call 33; (with_reducible refine (HA.out _).mono ?_); rintro e w' ⟨rfl, rfl⟩)
      | (go_at_call 33; (with_reducible refine (HB.out _).mono ?_); rintro e w' ⟨rfl, rfl⟩)
      | (go_at_call 34; refine (rsat_any _ _ (by omega) (by omega) _).mono ?_; rintro e w' ⟨rfl, rfl⟩))
  go_ret2
  exact ⟨ret_pair hfin.out.1 hfin.out.2.symm, below_drewN (Below.refl _ _) _⟩

/-- the state of the reference's division after t doublings -/
structure Dbl (A Y : Int) (t : Nat) (q r : Int) : Prop where
  q : q = A * 2 ^ t / Y
  r : r = A * 2 ^ t % Y
theorem dbl_step {A Y q r : Int} {t : Nat} (h : Dbl A Y t q r) (hY : 1 ≤ Y) : (Y ≤ 2 * r → Dbl A Y (t + 1) (2 * q + 1) (2 * r - Y)) ∧ (2 * r < Y → Dbl A Y (t + 1) (2 * q) (2 * r)) := by
  have hd := step_div (N := A * 2 ^ t) (Y := Y) (bt := 0) hY (Or.inl rfl)
  rw [Int.add_zero, Int.add_zero, ← h.q, ← h.r] at hd
  have e : A * 2 ^ (t + 1) = 2 * (A * 2 ^ t) := by rw [Int.pow_succ, ← Int.mul_assoc, Int.mul_comm]
  constructor
  · intro hh
    obtain ⟨d1, d2⟩ := hd.1 hh
    exact ⟨by rw [e, d1], by rw [e, d2]⟩
  · intro hh
    obtain ⟨d1, d2⟩ := hd.2 hh
    exact ⟨by rw [e, d1], by rw [e, d2]⟩

set_option maxHeartbeats 4000000 in
theorem rdiv_core (a b A Y : Int) (hA : ∀ z : World, Calls Try.prog 33 #[.int .i64 a] z fun e w' => e = .returned (.int .u64 A) ∧ z = w') (hB : ∀ z : World, Calls Try.prog 33 #[.int .i64 b] z fun e w' => e = .returned (.int .u64 Y) ∧ z = w')
    (b0 : (b == 0) = false) (a1 : 0 ≤ A) (a2 : A ≤ 9223372036854775808) (y1 : 1 ≤ Y) (y2 : Y ≤ 9223372036854775808) (hlt : A / Y < 2147483648)
    (hfin : Hid (∀ (neg : Bool) (v : Int), neg = negB a b → v = A * 65536 / Y + (if Y - A * 65536 % Y ≤ A * 65536 % Y then 1 else 0) → satI neg v = divI a b)) (hE : Hid (divE b = 0)) (w : World) :
    Calls Try.prog 9 #[.int .i64 a, .int .i64 b] w fun e w' => e = .returned (.tuple #[.int .i64 (divI a b), .int .i64 (divE b)]) ∧ Below w.heap.size w w' := by
  have HA := hid hA
  have HB := hid hB
  clear hA hB
  have y0 : (Y == 0) = false := by
    have : Y ≠ 0 := by omega
    simpa using this
  have q0 : 0 ≤ A / Y := Int.ediv_nonneg a1 (by omega)
  have r0 := Int.emod_nonneg A (show Y ≠ 0 by omega)
  have r1 := Int.emod_lt_of_pos A (show 0 < Y by omega)
  go_enter Try.func9, Try.ntmps9
  go_wp2_with (first
      | (go_at_call 33; (with_reducible refine (HA.out _).mono ?_); rintro e w' ⟨rfl, rfl⟩)
      | (go_at_call 33; (with_reducible refine (HB.out _).mono ?_); rintro e w' ⟨rfl, rfl⟩)
      | (go_at_call 34; refine (rsat_any _ _ (by omega) (by omega) _).mono ?_; rintro e w' ⟨rfl, rfl⟩))
  go_quiet (fail)
  go_wp2_with (first
      | (go_at_call 33; (with_reducible refine (HA.out _).mono ?_); rintro e w' ⟨rfl, rfl⟩)
      | (go_at_call 33; (with_reducible refine (HB.out _).mono ?_); rintro e w' ⟨rfl, rfl⟩)
      | (go_at_call 34; refine (rsat_any _ _ (by omega) (by omega) _).mono ?_; rintro e w' ⟨rfl, rfl⟩))
  go_loop [9, 10, 11] (fun x y i => ∃ (t : Nat) (q r : Int), t ≤ 16 ∧ Hid (Dbl A Y t q r) ∧ 0 ≤ q ∧ Hid (q < 2147483648 * 2 ^ t) ∧ 0 ≤ r ∧ r < Y ∧ i = .int .i64 t ∧ x = .int .u64 q ∧ y = .int .u64 r) (fun _ _ i => (16 - intOf i).toNat)
  case atStart => exact ⟨0, A / Y, A % Y, by omega, hid ⟨by simp, by simp⟩, q0, hid (by simpa using hlt), r0, r1, rfl, rfl, rfl⟩
  case round =>
    obtain ⟨t, q, r, ht, HD, hq0, HQ, hr0, hr1, rfl, rfl, rfl⟩ := hrel
    have hq1 : q < 140737488355328 := by
      have h1 := HQ.out
      have h2 : (2 : Int) ^ t ≤ 65536 := by
        have := Nat.pow_le_pow_right (show 0 < 2 by decide) ht
        have e : ((2 : Int) ^ t) = ((2 ^ t : Nat) : Int) := by push_cast; rfl
        rw [e]
        omega
      omega
    by_cases hlt2 : t < 16
    · have hst := dbl_step HD.out y1
      have HQ2 : Hid (∀ c : Int, c ≤ 1 → 2 * q + c < 2147483648 * 2 ^ (t + 1)) := hid (fun c hc => by have := HQ.out; rw [Int.pow_succ]; omega)
      have hq2 : q < 70368744177664 := by
        have h1 := HQ.out
        have h2 : (2 : Int) ^ t ≤ 32768 := by
          have := Nat.pow_le_pow_right (show 0 < 2 by decide) (show t ≤ 15 by omega)
          have e : ((2 : Int) ^ t) = ((2 ^ t : Nat) : Int) := by push_cast; rfl
          rw [e]
          omega
        omega
      by_cases hge : Y ≤ 2 * r
      · have ST := hid (hst.1 hge)
        clear hst
        go_wp2
        go_round
        case rel => exact ⟨t + 1, 2 * q + 1, 2 * r - Y, by omega, ST, by omega, hid (HQ2.out 1 (by omega)), by omega, by omega, by go_num, rfl, rfl⟩
        case measure => simp [intOf]; omega
      · have hge' : 2 * r < Y := by omega
        have ST := hid (hst.2 hge')
        clear hst hge
        go_wp2
        go_round
        case rel => exact ⟨t + 1, 2 * q, 2 * r, by omega, ST, by omega, hid (by have := HQ2.out 0 (by omega); simpa using this), by omega, by omega, by go_num, rfl, rfl⟩
        case measure => simp [intOf]; omega
    · obtain rfl : t = 16 := by omega
      have E1 := hid HD.out.q
      have E2 := hid HD.out.r
      have e16 : (2 : Int) ^ 16 = 65536 := by decide
      rw [e16] at E1 E2
      clear e16
      by_cases t1 : Y - r ≤ r
      · go_wp2_with (first
      | (go_at_call 33; (with_reducible refine (HA.out _).mono ?_); rintro e w' ⟨rfl, rfl⟩)
      | (go_at_call 33; (with_reducible refine (HB.out _).mono ?_); rintro e w' ⟨rfl, rfl⟩)
      | (go_at_call 34; refine (rsat_any _ _ (by omega) (by omega) _).mono ?_; rintro e w' ⟨rfl, rfl⟩))
        go_ret2
        exact ⟨ret_pair (hfin.out _ _ rfl (by rw [← E2.out, if_pos t1, ← E1.out])) hE.out.symm, below_drewN (Below.refl _ _) _⟩
      · have t1' : r < Y - r := by omega
        clear t1
        go_wp2_with (first
      | (go_at_call 33; (with_reducible refine (HA.out _).mono ?_); rintro e w' ⟨rfl, rfl⟩)
      | (go_at_call 33; (with_reducible refine (HB.out _).mono ?_); rintro e w' ⟨rfl, rfl⟩)
      | (go_at_call 34; refine (rsat_any _ _ (by omega) (by omega) _).mono ?_; rintro e w' ⟨rfl, rfl⟩))
        go_ret2
        exact ⟨ret_pair (hfin.out _ _ rfl (by rw [← E2.out, if_neg (by omega), ← E1.out]; omega)) hE.out.symm, below_drewN (Below.refl _ _) _⟩

theorem rdiv_any (a b : Int) (h1 : -9223372036854775808 ≤ a) (h2 : a ≤ 9223372036854775807) (h3 : -9223372036854775808 ≤ b) (h4 : b ≤ 9223372036854775807) (w : World) :
    Calls Try.prog 9 #[.int .i64 a, .int .i64 b] w fun e w' => e = .returned (.tuple #[.int .i64 (divI a b), .int .i64 (divE b)]) ∧ Below w.heap.size w w' := by
  by_cases hb : b = 0
  · subst hb
    exact (rdiv_zero a w).mono fun e w' ⟨he, hw⟩ => ⟨he, by rw [← hw]; exact Below.refl _ _⟩
  · obtain ⟨a1, a2⟩ := absI_le h1 h2
    obtain ⟨b1, b2⟩ := absI_le h3 h4
    have y1 := abs_zero hb
    have b0 : (b == 0) = false := by simpa using hb
    rcases Int.lt_or_le (absI a / absI b) 2147483648 with hlt | hge
    · exact rdiv_core a b (absI a) (absI b) (fun z => rmag_any a h1 h2 z) (fun z => rmag_any b h3 h4 z) b0 a1 a2 y1 b2 hlt (hid fun neg v hn hv => div_fin hb neg v hn (Or.inl hv)) (hid (divE_nz hb)) w
    · refine rdiv_over a b (absI a) (absI b) (fun z => rmag_any a h1 h2 z) (fun z => rmag_any b h3 h4 z) b0 a1 a2 y1 b2 hge (hid ⟨div_fin hb _ _ rfl (Or.inr ⟨by omega, quo_ge _ ?_⟩), divE_nz hb⟩) w
      have e := (Int.le_ediv_iff_mul_le (show 0 < absI b by omega)).1 hge
      exact (Int.le_ediv_iff_mul_le (by omega)).2 (by omega)

/-! the examples of the statements' own check -/
theorem ex1 : divI 1 3 = 21845 := by decide
theorem ex2 : divE 3 = 0 := by decide
theorem ex3 : mulI 98304 (-1) = -2 := by decide
theorem ex4 : isq 99 = 9 := by decide
theorem ex5 : isq (sqr 3 (-4)) = 5 := by decide
set_option maxHeartbeats 2000000 in
theorem awake_any (w : World) : Calls Try.prog 12 #[] w fun e w' => e = .returned (.bool true) ∧ Below w.heap.size w w' := by
  have e1 := ex1
  have e2 := ex2
  have e3 := ex3
  have e4 := ex4
  have e5 := ex5
  go_enter Try.func12, Try.ntmps12
  go_wp2_with (first
    | (go_at_call 8; refine (div_any _ _ (by omega) (by omega) (by omega) (by omega) _).mono ?_; rintro e w' ⟨rfl, rfl⟩)
    | (go_at_call 10; refine (mul_any _ _ (by omega) (by omega) (by omega) (by omega) _).mono ?_; rintro e w' ⟨rfl, rfl⟩)
    | (go_at_call 25; refine (root_any _ (by omega) _).mono ?_; rintro e w' ⟨rfl, rfl⟩)
    | (go_at_call 15; refine (length_any _ _ (by omega) (by omega) (by omega) (by omega) _).mono ?_; rintro e w' ⟨rfl, hb⟩))
  go_ret
  exact ⟨rfl, hb⟩
end Go.Proofs.Yteinfhfapelegaa
