/- Walks: limits, reach, clamped points. -/
import Derived.Test.YthfpdlkeagoamaaWb
import Derived.Test.YthfpdlkeagoamaaMot
namespace Go.Proofs.Ythfpdlkeagoamaa
open Go.RowKit
abbrev lim (S A B H M : Int) : Value := .agg #[.int .i64 S, .int .i64 A, .int .i64 B, .int .i64 H, .int .i64 M]
abbrev mo (px py vx vy : Int) : Value := .agg #[.int .i64 px, .int .i64 py, .int .i64 vx, .int .i64 vy]
theorem within_any (n lo hi : Int) (w : World) : Calls Try.prog 28 #[.int .i64 n, .int .i64 lo, .int .i64 hi] w fun e w' => e = .returned (.bool (inB n lo hi)) ∧ w = w' := by
  rcases Int.lt_or_le n lo with h1 | h1
  · go_enter Try.func28, Try.ntmps28
    go_wp2
    go_ret
    exact ⟨ret_bool (by unfold inB; simp; omega), rfl⟩
  · rcases Int.lt_or_le hi n with h2 | h2
    · go_enter Try.func28, Try.ntmps28
      go_wp2
      go_ret
      exact ⟨ret_bool (by unfold inB; simp; omega), rfl⟩
    · go_enter Try.func28, Try.ntmps28
      go_wp2
      go_ret
      exact ⟨ret_bool (by unfold inB; simp; omega), rfl⟩
theorem rwithin_any (n lo hi : Int) (w : World) : Calls Try.prog 29 #[.int .i64 n, .int .i64 lo, .int .i64 hi] w fun e w' => e = .returned (.bool (inB n lo hi)) ∧ w = w' := by
  rcases Int.lt_or_le n lo with h1 | h1
  · go_enter Try.func29, Try.ntmps29
    go_wp2
    go_ret
    exact ⟨ret_bool (by unfold inB; simp; omega), rfl⟩
  · rcases Int.lt_or_le hi n with h2 | h2
    · go_enter Try.func29, Try.ntmps29
      go_wp2
      go_ret
      exact ⟨ret_bool (by unfold inB; simp; omega), rfl⟩
    · go_enter Try.func29, Try.ntmps29
      go_wp2
      go_ret
      exact ⟨ret_bool (by unfold inB; simp; omega), rfl⟩
set_option maxHeartbeats 1000000 in
theorem check_any (S A B H M : Int) (w : World) : Calls Try.prog 10 #[lim S A B H M] w fun e w' => e = .returned (.int .i64 (chkE S A B H M)) ∧ Below w.heap.size w w' := by
  cases e1 : inB S 1 4096 with
  | false =>
    have hv : Hid (chkE S A B H M = 4) := hid (by unfold chkE chk; rw [e1]; rfl)
    go_enter Try.func10, Try.ntmps10
    go_wp2_with (first | (go_at_call 28; (with_reducible refine (within_any _ _ _ _).mono ?_); rintro e w2 ⟨rfl, rfl⟩))
    go_ret
    exact ⟨ret_int hv.out.symm, by go_grown⟩
  | true =>
    cases e2 : inB A 1 S with
    | false =>
      have hv : Hid (chkE S A B H M = 4) := hid (by unfold chkE chk; rw [e1, e2]; rfl)
      go_enter Try.func10, Try.ntmps10
      go_wp2_with (first | (go_at_call 28; (with_reducible refine (within_any _ _ _ _).mono ?_); rintro e w2 ⟨rfl, rfl⟩))
      go_ret
      exact ⟨ret_int hv.out.symm, by go_grown⟩
    | true =>
      cases e3 : inB B 1 S with
      | false =>
        have hv : Hid (chkE S A B H M = 4) := hid (by unfold chkE chk; rw [e1, e2, e3]; rfl)
        go_enter Try.func10, Try.ntmps10
        go_wp2_with (first | (go_at_call 28; (with_reducible refine (within_any _ _ _ _).mono ?_); rintro e w2 ⟨rfl, rfl⟩))
        go_ret
        exact ⟨ret_int hv.out.symm, by go_grown⟩
      | true =>
        cases e4 : inB H 0 4096 with
        | false =>
          have hv : Hid (chkE S A B H M = 4) := hid (by unfold chkE chk; rw [e1, e2, e3, e4]; rfl)
          go_enter Try.func10, Try.ntmps10
          go_wp2_with (first | (go_at_call 28; (with_reducible refine (within_any _ _ _ _).mono ?_); rintro e w2 ⟨rfl, rfl⟩))
          go_ret
          exact ⟨ret_int hv.out.symm, by go_grown⟩
        | true =>
          cases e5 : inB M 0 1048576 with
          | false =>
            have hv : Hid (chkE S A B H M = 4) := hid (by unfold chkE chk; rw [e1, e2, e3, e4, e5]; rfl)
            go_enter Try.func10, Try.ntmps10
            go_wp2_with (first | (go_at_call 28; (with_reducible refine (within_any _ _ _ _).mono ?_); rintro e w2 ⟨rfl, rfl⟩))
            go_ret
            exact ⟨ret_int hv.out.symm, by go_grown⟩
          | true =>
            have hv : Hid (chkE S A B H M = 0) := hid (by unfold chkE chk; rw [e1, e2, e3, e4, e5]; rfl)
            go_enter Try.func10, Try.ntmps10
            go_wp2_with (first | (go_at_call 28; (with_reducible refine (within_any _ _ _ _).mono ?_); rintro e w2 ⟨rfl, rfl⟩))
            go_ret
            exact ⟨ret_int hv.out.symm, by go_grown⟩
set_option maxHeartbeats 1000000 in
theorem rcheck_any (S A B H M : Int) (w : World) : Calls Try.prog 11 #[lim S A B H M] w fun e w' => e = .returned (.int .i64 (chkE S A B H M)) ∧ Below w.heap.size w w' := by
  cases e1 : inB S 1 4096 with
  | false =>
    have hv : Hid (chkE S A B H M = 4) := hid (by unfold chkE chk; rw [e1]; rfl)
    go_enter Try.func11, Try.ntmps11
    go_wp2_with (first | (go_at_call 29; (with_reducible refine (rwithin_any _ _ _ _).mono ?_); rintro e w2 ⟨rfl, rfl⟩))
    go_ret
    exact ⟨ret_int hv.out.symm, by go_grown⟩
  | true =>
    cases e2 : inB A 1 S with
    | false =>
      have hv : Hid (chkE S A B H M = 4) := hid (by unfold chkE chk; rw [e1, e2]; rfl)
      go_enter Try.func11, Try.ntmps11
      go_wp2_with (first | (go_at_call 29; (with_reducible refine (rwithin_any _ _ _ _).mono ?_); rintro e w2 ⟨rfl, rfl⟩))
      go_ret
      exact ⟨ret_int hv.out.symm, by go_grown⟩
    | true =>
      cases e3 : inB B 1 S with
      | false =>
        have hv : Hid (chkE S A B H M = 4) := hid (by unfold chkE chk; rw [e1, e2, e3]; rfl)
        go_enter Try.func11, Try.ntmps11
        go_wp2_with (first | (go_at_call 29; (with_reducible refine (rwithin_any _ _ _ _).mono ?_); rintro e w2 ⟨rfl, rfl⟩))
        go_ret
        exact ⟨ret_int hv.out.symm, by go_grown⟩
      | true =>
        cases e4 : inB H 0 4096 with
        | false =>
          have hv : Hid (chkE S A B H M = 4) := hid (by unfold chkE chk; rw [e1, e2, e3, e4]; rfl)
          go_enter Try.func11, Try.ntmps11
          go_wp2_with (first | (go_at_call 29; (with_reducible refine (rwithin_any _ _ _ _).mono ?_); rintro e w2 ⟨rfl, rfl⟩))
          go_ret
          exact ⟨ret_int hv.out.symm, by go_grown⟩
        | true =>
          cases e5 : inB M 0 1048576 with
          | false =>
            have hv : Hid (chkE S A B H M = 4) := hid (by unfold chkE chk; rw [e1, e2, e3, e4, e5]; rfl)
            go_enter Try.func11, Try.ntmps11
            go_wp2_with (first | (go_at_call 29; (with_reducible refine (rwithin_any _ _ _ _).mono ?_); rintro e w2 ⟨rfl, rfl⟩))
            go_ret
            exact ⟨ret_int hv.out.symm, by go_grown⟩
          | true =>
            have hv : Hid (chkE S A B H M = 0) := hid (by unfold chkE chk; rw [e1, e2, e3, e4, e5]; rfl)
            go_enter Try.func11, Try.ntmps11
            go_wp2_with (first | (go_at_call 29; (with_reducible refine (rwithin_any _ _ _ _).mono ?_); rintro e w2 ⟨rfl, rfl⟩))
            go_ret
            exact ⟨ret_int hv.out.symm, by go_grown⟩
end Go.Proofs.Ythfpdlkeagoamaa
