/- Walks: intervals, reach, paths, centres. -/
import Derived.Test.YtdcclpdnnhaeoaaWb
import Derived.Test.YtdcclpdnnhaeoaaMot
import Derived.Test.YtdcclpdnnhaeoaaEqs
import Derived.Test.YtdcclpdnnhaeoaaFresh
import Derived.Maps.AppendAt
import Derived.Deep.AppendLies
import Derived.Deep.DeepCutAuto
namespace Go.Proofs.Ytdcclpdnnhaeoaa
open Go.RowKit
set_option linter.unusedVariables false
abbrev lim (S A B H M : Int) : Value := .agg #[.int .i64 S, .int .i64 A, .int .i64 B, .int .i64 H, .int .i64 M]
abbrev mo (px py vx vy : Int) : Value := .agg #[.int .i64 px, .int .i64 py, .int .i64 vx, .int .i64 vy]
theorem within_any (n lo hi : Int) (w : World) : Calls Try.prog 27 #[.int .i64 n, .int .i64 lo, .int .i64 hi] w fun e w' => e = .returned (.bool (inB n lo hi)) ∧ w = w' := by
  rcases Int.lt_or_le n lo with h1 | h1
  · go_enter Try.func27, Try.ntmps27
    go_wp2
    go_ret
    exact ⟨ret_bool (by unfold inB; simp; omega), rfl⟩
  · rcases Int.lt_or_le hi n with h2 | h2
    · go_enter Try.func27, Try.ntmps27
      go_wp2
      go_ret
      exact ⟨ret_bool (by unfold inB; simp; omega), rfl⟩
    · go_enter Try.func27, Try.ntmps27
      go_wp2
      go_ret
      exact ⟨ret_bool (by unfold inB; simp; omega), rfl⟩
theorem gin_any (n lo hi : Int) (w : World) : Calls Try.prog 28 #[.int .i64 n, .int .i64 lo, .int .i64 hi] w fun e w' => e = .returned (.bool (inB n lo hi)) ∧ w = w' := by
  rcases Int.lt_or_le n lo with h1 | h1
  · go_enter Try.func28, Try.ntmps28
    go_wp2
    go_ret
    exact ⟨ret_bool (by unfold inB; simp; omega), rfl⟩
  · rcases Int.lt_or_le hi n with h2 | h2
    · go_enter Try.func28, Try.ntmps28
      go_wp2
      go_ret
      exact ⟨ret_bool (by unfold inB; simp; omega), rfl⟩
    · go_enter Try.func28, Try.ntmps28
      go_wp2
      go_ret
      exact ⟨ret_bool (by unfold inB; simp; omega), rfl⟩
theorem bin_any (n lo hi : Int) (w : World) : Calls Try.prog 45 #[.int .i64 n, .int .i64 lo, .int .i64 hi] w fun e w' => e = .returned (.bool (inB n lo hi)) ∧ w = w' := by
  rcases Int.lt_or_le n lo with h1 | h1
  · go_enter Try.func45, Try.ntmps45
    go_wp2
    go_ret
    exact ⟨ret_bool (by unfold inB; simp; omega), rfl⟩
  · rcases Int.lt_or_le hi n with h2 | h2
    · go_enter Try.func45, Try.ntmps45
      go_wp2
      go_ret
      exact ⟨ret_bool (by unfold inB; simp; omega), rfl⟩
    · go_enter Try.func45, Try.ntmps45
      go_wp2
      go_ret
      exact ⟨ret_bool (by unfold inB; simp; omega), rfl⟩
set_option maxHeartbeats 1000000 in
theorem check_any (S A B H M : Int) (w : World) : Calls Try.prog 10 #[lim S A B H M] w fun e w' => e = .returned (.int .i64 (chkE S A B H M)) ∧ Below w.heap.size w w' := by
  cases e1 : inB S 1 4096 with
  | false =>
    have hv : Hid (chkE S A B H M = 4) := hid (by unfold chkE chk; rw [e1]; rfl)
    go_enter Try.func10, Try.ntmps10
    go_wp2_with (first | (go_at_call 27; (with_reducible refine (within_any _ _ _ _).mono ?_); rintro e w2 ⟨rfl, rfl⟩))
    go_ret
    exact ⟨ret_int hv.out.symm, by go_grown⟩
  | true =>
    cases e2 : inB A 1 S with
    | false =>
      have hv : Hid (chkE S A B H M = 4) := hid (by unfold chkE chk; rw [e1, e2]; rfl)
      go_enter Try.func10, Try.ntmps10
      go_wp2_with (first | (go_at_call 27; (with_reducible refine (within_any _ _ _ _).mono ?_); rintro e w2 ⟨rfl, rfl⟩))
      go_ret
      exact ⟨ret_int hv.out.symm, by go_grown⟩
    | true =>
      cases e3 : inB B 1 S with
      | false =>
        have hv : Hid (chkE S A B H M = 4) := hid (by unfold chkE chk; rw [e1, e2, e3]; rfl)
        go_enter Try.func10, Try.ntmps10
        go_wp2_with (first | (go_at_call 27; (with_reducible refine (within_any _ _ _ _).mono ?_); rintro e w2 ⟨rfl, rfl⟩))
        go_ret
        exact ⟨ret_int hv.out.symm, by go_grown⟩
      | true =>
        cases e4 : inB H 0 4096 with
        | false =>
          have hv : Hid (chkE S A B H M = 4) := hid (by unfold chkE chk; rw [e1, e2, e3, e4]; rfl)
          go_enter Try.func10, Try.ntmps10
          go_wp2_with (first | (go_at_call 27; (with_reducible refine (within_any _ _ _ _).mono ?_); rintro e w2 ⟨rfl, rfl⟩))
          go_ret
          exact ⟨ret_int hv.out.symm, by go_grown⟩
        | true =>
          cases e5 : inB M 0 1048576 with
          | false =>
            have hv : Hid (chkE S A B H M = 4) := hid (by unfold chkE chk; rw [e1, e2, e3, e4, e5]; rfl)
            go_enter Try.func10, Try.ntmps10
            go_wp2_with (first | (go_at_call 27; (with_reducible refine (within_any _ _ _ _).mono ?_); rintro e w2 ⟨rfl, rfl⟩))
            go_ret
            exact ⟨ret_int hv.out.symm, by go_grown⟩
          | true =>
            have hv : Hid (chkE S A B H M = 0) := hid (by unfold chkE chk; rw [e1, e2, e3, e4, e5]; rfl)
            go_enter Try.func10, Try.ntmps10
            go_wp2_with (first | (go_at_call 27; (with_reducible refine (within_any _ _ _ _).mono ?_); rintro e w2 ⟨rfl, rfl⟩))
            go_ret
            exact ⟨ret_int hv.out.symm, by go_grown⟩
theorem treach_any (n : Int) (w : World) : Calls Try.prog 25 #[.int .i64 n] w fun e w' => e = .returned (.bool (inB n (-1048576) 1048576)) ∧ w = w' := by
  rcases Int.lt_or_le n (-1048576) with h1 | h1
  · go_enter Try.func25, Try.ntmps25
    go_wp2
    go_ret
    exact ⟨ret_bool (by unfold inB; simp; omega), rfl⟩
  · rcases Int.lt_or_le 1048576 n with h2 | h2
    · go_enter Try.func25, Try.ntmps25
      go_wp2
      go_ret
      exact ⟨ret_bool (by unfold inB; simp; omega), rfl⟩
    · go_enter Try.func25, Try.ntmps25
      go_wp2
      go_ret
      exact ⟨ret_bool (by unfold inB; simp; omega), rfl⟩
theorem greach_any (x y : Int) (w : World) : Calls Try.prog 29 #[pt x y] w fun e w' => e = .returned (.bool (rchB x y)) ∧ Below w.heap.size w w' := by
  cases e1 : inB x (-1048576) 1048576 with
  | false =>
    have hv : Hid (rchB x y = false) := hid (by unfold rchB; rw [e1]; rfl)
    go_enter Try.func29, Try.ntmps29
    go_wp2_with (first | (go_at_call 28; (with_reducible refine (gin_any _ _ _ _).mono ?_); rintro e w2 ⟨rfl, rfl⟩))
    go_ret
    exact ⟨ret_bool hv.out.symm, by go_grown⟩
  | true =>
    have hv : Hid (rchB x y = inB y (-1048576) 1048576) := hid (by unfold rchB; rw [e1]; rfl)
    go_enter Try.func29, Try.ntmps29
    go_wp2_with (first | (go_at_call 28; (with_reducible refine (gin_any _ _ _ _).mono ?_); rintro e w2 ⟨rfl, rfl⟩))
    go_ret
    exact ⟨ret_bool hv.out.symm, by go_grown⟩
theorem mul_rng {c s : Int} (h1 : -1048576 ≤ c) (h2 : c ≤ 1048576) (h3 : 1 ≤ s) (h4 : s ≤ 1048576) : -1099511627776 ≤ c * s ∧ c * s ≤ 1099511627776 := by
  have p1 : 0 ≤ (1048576 - c) * s := Int.mul_nonneg (by omega) (by omega)
  have p2 : 0 ≤ (1048576 + c) * s := Int.mul_nonneg (by omega) (by omega)
  have e1 : (1048576 - c) * s = 1048576 * s - c * s := by grind
  have e2 : (1048576 + c) * s = 1048576 * s + c * s := by grind
  omega
/-- the centre of a cell -/
def ctr (c size : Int) : Int := c * size + size / 2
def ctrB (x y size : Int) : Bool := inB size 1 1048576 && rchB x y
def ctrX (x y size : Int) : Int := if ctrB x y size then ctr x size else 0
def ctrY (x y size : Int) : Int := if ctrB x y size then ctr y size else 0
set_option maxHeartbeats 2000000 in
theorem center_any (x y size : Int) (w : World) : Calls Try.prog 12 #[pt x y, .int .i64 size] w fun e w' => e = .returned (pt (ctrX x y size) (ctrY x y size)) ∧ Below w.heap.size w w' := by
  have HR := hid (fun w => greach_any x y w)
  cases e1 : inB size 1 1048576 with
  | false =>
    have v1 : ctrX x y size = 0 := by unfold ctrX ctrB; rw [e1]; rfl
    have v2 : ctrY x y size = 0 := by unfold ctrY ctrB; rw [e1]; rfl
    rw [v1, v2]
    clear v1 v2
    go_enter Try.func12, Try.ntmps12
    go_wp2_with (first | (go_at_call 28; (with_reducible refine (gin_any _ _ _ _).mono ?_); rintro e w2 ⟨rfl, rfl⟩))
    go_returns
    exact ⟨rfl, by go_grown⟩
  | true =>
    cases e2 : rchB x y with
    | false =>
      have v1 : ctrX x y size = 0 := by unfold ctrX ctrB; rw [e1, e2]; rfl
      have v2 : ctrY x y size = 0 := by unfold ctrY ctrB; rw [e1, e2]; rfl
      rw [v1, v2]
      rw [e2] at HR
      clear v1 v2 e2
      go_enter Try.func12, Try.ntmps12
      go_wp2_with (first
        | (go_at_call 28; (with_reducible refine (gin_any _ _ _ _).mono ?_); rintro e w2 ⟨rfl, rfl⟩)
        | (go_at_call 29; (with_reducible refine (HR.out _).mono ?_); rintro e w3 ⟨rfl, hb⟩; obtain ⟨hc, hf⟩ := bcell hb; have hz : w.heap.size + 1 < w3.heap.size := (by have := hb.size; simp at this; omega)))
      (try simp only [Exit.inBlock, Exit.then])
      refine bodyPost_ret (v := pt 0 0) (by simp [results, Try.results12, go_sem, hc]) rfl ?_
      exact ⟨rfl, ((box2 hb).setCell (by simp <;> omega) _).setCell (by simp <;> omega) _⟩
    | true =>
      have v1 : ctrX x y size = ctr x size := by unfold ctrX ctrB; rw [e1, e2]; rfl
      have v2 : ctrY x y size = ctr y size := by unfold ctrY ctrB; rw [e1, e2]; rfl
      rw [v1, v2]
      have t1 := inB_true e1
      have t2 := rchB_true e2
      obtain ⟨s1, s2⟩ := t1
      obtain ⟨x1, x2, y1, y2⟩ := t2
      have p1 := mul_rng x1 x2 s1 s2
      have p2 := mul_rng y1 y2 s1 s2
      obtain ⟨p1, p1'⟩ := p1
      obtain ⟨p2, p2'⟩ := p2
      rw [e2] at HR
      have HX : Hid (ctr x size = x * size + size / 2) := hid rfl
      have HY : Hid (ctr y size = y * size + size / 2) := hid rfl
      clear v1 v2 e2
      go_enter Try.func12, Try.ntmps12
      go_wp2_with (first
        | (go_at_call 28; (with_reducible refine (gin_any _ _ _ _).mono ?_); rintro e w2 ⟨rfl, rfl⟩)
        | (go_at_call 29; (with_reducible refine (HR.out _).mono ?_); rintro e w3 ⟨rfl, hb⟩; obtain ⟨hc, hf⟩ := bcell hb; have hz : w.heap.size + 1 < w3.heap.size := (by have := hb.size; simp at this; omega); have hz' : w.heap.size < w3.heap.size := (by omega)))
      (try simp only [Exit.inBlock, Exit.then])
      refine bodyPost_ret (v := pt (x * size + size / 2) (y * size + size / 2)) (by simp [results, Try.results12, go_sem, hc]) rfl ?_
      exact ⟨by rw [HX.out, HY.out], ((box2 hb).setCell (by simp <;> omega) _).setCell (by simp <;> omega) _⟩
end Go.Proofs.Ytdcclpdnnhaeoaa
