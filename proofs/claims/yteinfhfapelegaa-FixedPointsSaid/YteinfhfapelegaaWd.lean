import Derived.Test.YteinfhfapelegaaWc
namespace Go.Proofs.Yteinfhfapelegaa
open Go.RowKit

theorem zero_prod {a b : Int} (h : a ≤ 0) (h0 : 0 ≤ a) : a * b = 0 := by rw [show a = 0 from by omega, Int.zero_mul]
theorem zero_prod' {a b : Int} (h : b ≤ 0) (h0 : 0 ≤ b) : a * b = 0 := by rw [show b = 0 from by omega, Int.mul_zero]
/-- what stands behind the first test of the reference's product: the high words' product is 0 -/
structure Halves (A B a b c d ad bc bd : Int) : Prop where
  ha : A / 4294967296 = a
  hb : A % 4294967296 = b
  hc : B / 4294967296 = c
  hd : B % 4294967296 = d
  had : a * d = ad
  hbc : b * c = bc
  hbd : b * d = bd
  prod : A * B = (ad + bc) * 4294967296 + bd
set_option maxHeartbeats 4000000 in
theorem rmul_core (a b : Int) (A B x y c d ad bc bd : Int) (hA : ∀ z : World, Calls Try.prog 33 #[.int .i64 a] z fun e w' => e = .returned (.int .u64 A) ∧ z = w') (hB : ∀ z : World, Calls Try.prog 33 #[.int .i64 b] z fun e w' => e = .returned (.int .u64 B) ∧ z = w')
    (H : Halves A B x y c d ad bc bd) (a1 : 0 ≤ A) (a2 : A ≤ 9223372036854775808) (b1 : 0 ≤ B) (b2 : B ≤ 9223372036854775808) (q1 : 0 ≤ ad + bc) (q2 : ad + bc ≤ 18446744065119617025) (q3 : 0 ≤ ad) (q4 : 0 ≤ bc) (q5 : 0 ≤ bd) (q6 : bd ≤ 18446744065119617025) (hx : 0 ≤ x) (hc0 : 0 ≤ c) (hz : x ≤ 0 ∨ (0 < x ∧ c ≤ 0)) (w : World) :
    Calls Try.prog 11 #[.int .i64 a, .int .i64 b] w fun e w' => e = .returned (.int .i64 (satI (negB a b) ((A * B + 32768) / 65536))) ∧ w = w' := by
  obtain ⟨r1, r2, r3, r4, r5, r6, r7, r8⟩ := H
  have HP := hid r8
  have HA := hid hA
  have HB := hid hB
  clear r8 hA hB
  have fin : ∀ (bb : Bool) (v : Int), bb = negB a b → ((140737488355328 ≤ v ∧ 140737488355328 ≤ (A * B + 32768) / 65536) ∨ v = (A * B + 32768) / 65536) → satI bb v = satI (negB a b) ((A * B + 32768) / 65536) := fun bb v hbb hv => by
    rw [hbb]
    rcases hv with hv | hv
    · exact sat_big hv.1 hv.2
    · rw [hv]
  have FIN := hid fin
  clear fin
  rcases hz with hz | ⟨hz, hz2⟩
  all_goals
    by_cases m1 : 2147483648 ≤ ad + bc
    · go_enter Try.func11, Try.ntmps11
      go_wp2_with (first
        | (go_at_call 33; (with_reducible refine (HA.out _).mono ?_); rintro e w' ⟨rfl, rfl⟩)
        | (go_at_call 33; (with_reducible refine (HB.out _).mono ?_); rintro e w' ⟨rfl, rfl⟩)
        | (go_at_call 34; refine (rsat_any _ _ (by omega) (by omega) _).mono ?_; rintro e w' ⟨rfl, rfl⟩))
      go_ret
      exact ⟨ret_int (FIN.out _ _ rfl (Or.inl ⟨by omega, by have := HP.out; omega⟩)), rfl⟩
    have m1' : ad + bc < 2147483648 := by omega
    clear m1
    by_cases m2 : 9223372036854775808 ≤ bd
    · go_enter Try.func11, Try.ntmps11
      go_wp2_with (first
        | (go_at_call 33; (with_reducible refine (HA.out _).mono ?_); rintro e w' ⟨rfl, rfl⟩)
        | (go_at_call 33; (with_reducible refine (HB.out _).mono ?_); rintro e w' ⟨rfl, rfl⟩)
        | (go_at_call 34; refine (rsat_any _ _ (by omega) (by omega) _).mono ?_; rintro e w' ⟨rfl, rfl⟩))
      go_ret
      exact ⟨ret_int (FIN.out _ _ rfl (Or.inl ⟨by omega, by have := HP.out; omega⟩)), rfl⟩
    have m2' : bd < 9223372036854775808 := by omega
    clear m2
    by_cases m3 : 9223372036854775808 ≤ (ad + bc) * 4294967296 + bd
    · go_enter Try.func11, Try.ntmps11
      go_wp2_with (first
        | (go_at_call 33; (with_reducible refine (HA.out _).mono ?_); rintro e w' ⟨rfl, rfl⟩)
        | (go_at_call 33; (with_reducible refine (HB.out _).mono ?_); rintro e w' ⟨rfl, rfl⟩)
        | (go_at_call 34; refine (rsat_any _ _ (by omega) (by omega) _).mono ?_; rintro e w' ⟨rfl, rfl⟩))
      go_ret
      exact ⟨ret_int (FIN.out _ _ rfl (Or.inl ⟨by omega, by have := HP.out; omega⟩)), rfl⟩
    have m3' : (ad + bc) * 4294967296 + bd < 9223372036854775808 := by omega
    clear m3
    go_enter Try.func11, Try.ntmps11
    go_wp2_with (first
        | (go_at_call 33; (with_reducible refine (HA.out _).mono ?_); rintro e w' ⟨rfl, rfl⟩)
        | (go_at_call 33; (with_reducible refine (HB.out _).mono ?_); rintro e w' ⟨rfl, rfl⟩)
        | (go_at_call 34; refine (rsat_any _ _ (by omega) (by omega) _).mono ?_; rintro e w' ⟨rfl, rfl⟩))
    go_ret
    exact ⟨ret_int (FIN.out _ _ rfl (Or.inr (by have := HP.out; omega))), rfl⟩
set_option maxHeartbeats 2000000 in
theorem rmul_big (a b : Int) (A B x c : Int) (hA : ∀ z : World, Calls Try.prog 33 #[.int .i64 a] z fun e w' => e = .returned (.int .u64 A) ∧ z = w') (hB : ∀ z : World, Calls Try.prog 33 #[.int .i64 b] z fun e w' => e = .returned (.int .u64 B) ∧ z = w')
    (r1 : A / 4294967296 = x) (r2 : B / 4294967296 = c) (a1 : 0 ≤ A) (a2 : A ≤ 9223372036854775808) (b1 : 0 ≤ B) (b2 : B ≤ 9223372036854775808) (hx : 0 < x) (hc : 0 < c) (hbig : Hid (140737488355328 ≤ (A * B + 32768) / 65536)) (w : World) :
    Calls Try.prog 11 #[.int .i64 a, .int .i64 b] w fun e w' => e = .returned (.int .i64 (satI (negB a b) ((A * B + 32768) / 65536))) ∧ w = w' := by
  have HA := hid hA
  have HB := hid hB
  clear hA hB
  go_enter Try.func11, Try.ntmps11
  go_wp2_with (first
        | (go_at_call 33; (with_reducible refine (HA.out _).mono ?_); rintro e w' ⟨rfl, rfl⟩)
        | (go_at_call 33; (with_reducible refine (HB.out _).mono ?_); rintro e w' ⟨rfl, rfl⟩)
        | (go_at_call 34; refine (rsat_any _ _ (by omega) (by omega) _).mono ?_; rintro e w' ⟨rfl, rfl⟩))
  go_ret
  exact ⟨ret_int (sat_big (by omega) hbig.out), rfl⟩
theorem rmul_any (a b : Int) (h1 : -9223372036854775808 ≤ a) (h2 : a ≤ 9223372036854775807) (h3 : -9223372036854775808 ≤ b) (h4 : b ≤ 9223372036854775807) (w : World) :
    Calls Try.prog 11 #[.int .i64 a, .int .i64 b] w fun e w' => e = .returned (.int .i64 (mulI a b)) ∧ w = w' := by
  obtain ⟨a1, a2⟩ := absI_le h1 h2
  obtain ⟨b1, b2⟩ := absI_le h3 h4
  obtain ⟨x, y, c, d, ac, ad, bc, bd, r1, r2, r3, r4, r5, r6, r7, r8, q1, q2, q3, q4, q5, q6, q7, q8, e⟩ := words a1 (show absI a < 18446744073709551616 by omega) b1 (show absI b < 18446744073709551616 by omega)
  have hx : 0 ≤ x := by omega
  have hc : 0 ≤ c := by omega
  by_cases hz : x ≤ 0 ∨ c ≤ 0
  · have hac : ac = 0 := by
      rcases hz with hz | hz
      · rw [← r5]; exact zero_prod hz hx
      · rw [← r5]; exact zero_prod' hz hc
    have hq : ad + bc ≤ 18446744065119617025 := by
      rcases hz with hz | hz
      · have : ad = 0 := by rw [← r6]; exact zero_prod hz hx
        omega
      · have : bc = 0 := by rw [← r7]; exact zero_prod' hz hc
        omega
    exact rmul_core a b (absI a) (absI b) x y c d ad bc bd (fun z => rmag_any a h1 h2 z) (fun z => rmag_any b h3 h4 z) ⟨r1, r2, r3, r4, r6, r7, r8, by rw [e, hac]; omega⟩ a1 a2 b1 b2 (by omega) hq q3 q5 q7 q8 hx hc (by omega) w
  · have : 1 ≤ ac := by
      rw [← r5]
      have := Int.mul_pos (show 0 < x by omega) (show 0 < c by omega)
      omega
    exact rmul_big a b (absI a) (absI b) x c (fun z => rmag_any a h1 h2 z) (fun z => rmag_any b h3 h4 z) r1 r3 a1 a2 b1 b2 (by omega) (by omega) (hid (by omega)) w
end Go.Proofs.Yteinfhfapelegaa
