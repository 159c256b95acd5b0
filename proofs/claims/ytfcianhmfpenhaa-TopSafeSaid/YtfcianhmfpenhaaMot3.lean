/- Motion, in plain Lean: the motions until the robot stands still. No program in sight. -/
import Derived.Test.YtfcianhmfpenhaaMot2
namespace Go.Proofs.Ytfcianhmfpenhaa
structure Mo where
  px : Int
  py : Int
  vx : Int
  vy : Int
def Mo.len (m : Mo) : Int := isq (sqr m.vx m.vy)
def Mo.ok (m : Mo) (S A B H M : Int) : Prop := vld m.px m.py m.vx m.vy S A B H M = true
/-- a tick of braking -/
def brk1 (B : Int) (m : Mo) : Mo := ⟨clp (m.px + brkX m.vx m.vy B), clp (m.py + brkY m.vx m.vy B), brkX m.vx m.vy B, brkY m.vx m.vy B⟩
def stopL (B : Int) : Nat → Mo → List Mo
  | 0, _ => []
  | k + 1, m => if m.vx = 0 ∧ m.vy = 0 then [] else brk1 B m :: stopL B k (brk1 B m)
theorem stopL_end {B : Int} {k : Nat} {m : Mo} (h1 : m.vx = 0) (h2 : m.vy = 0) : stopL B k m = [] := by
  cases k with
  | zero => rfl
  | succ k => unfold stopL; rw [if_pos ⟨h1, h2⟩]
theorem stopL_go {B : Int} {k : Nat} {m : Mo} (h : ¬ (m.vx = 0 ∧ m.vy = 0)) : stopL B (k + 1) m = brk1 B m :: stopL B k (brk1 B m) := by
  show (if _ then _ else _) = _
  rw [if_neg h]
theorem len_pos {m : Mo} (h : ¬ (m.vx = 0 ∧ m.vy = 0)) (h1 : sqr m.vx m.vy < 18446744073709551616) : 1 ≤ m.len := by
  have h0 := sqr_nonneg m.vx m.vy
  obtain ⟨a, b, c⟩ := isq_spec h0 h1
  unfold Mo.len
  rcases Int.lt_or_le 0 (isq (sqr m.vx m.vy)) with h' | h'
  · omega
  · have e : isq (sqr m.vx m.vy) = 0 := by omega
    rw [e] at c
    have hx := sq_self_nonneg m.vx
    have hy := sq_self_nonneg m.vy
    have es : sqr m.vx m.vy = m.vx * m.vx + m.vy * m.vy := rfl
    exfalso
    refine h ⟨?_, ?_⟩
    · have : m.vx * m.vx = 0 := by omega
      rcases Int.mul_eq_zero.1 this with h | h <;> exact h
    · have : m.vy * m.vy = 0 := by omega
      rcases Int.mul_eq_zero.1 this with h | h <;> exact h
theorem brkL_sq {vx vy B : Int} (hB : 0 ≤ B) (h : sqr vx vy < 18446744073709551616) : brkL vx vy B * brkL vx vy B ≤ sqr vx vy ∧ 0 ≤ brkL vx vy B := by
  obtain ⟨a, b, c⟩ := isq_spec (sqr_nonneg vx vy) h
  have h1 : 0 ≤ brkL vx vy B := by unfold brkL; omega
  have h2 : brkL vx vy B ≤ isq (sqr vx vy) := by unfold brkL; omega
  have := sq_le h1 h2
  exact ⟨by omega, h1⟩
theorem brk_sqr {vx vy B : Int} (hB : 0 ≤ B) (h : sqr vx vy < 18446744073709551616) : sqr (brkX vx vy B) (brkY vx vy B) ≤ brkL vx vy B * brkL vx vy B := by
  obtain ⟨_, h1⟩ := brkL_sq (vx := vx) (vy := vy) hB h
  exact (scl_spec h1 h).2.2.2.2
/-- braking lowers the length by the limit -/
theorem brk_len {m : Mo} {B : Int} (hB : 0 ≤ B) (h : sqr m.vx m.vy < 18446744073709551616) : (brk1 B m).len ≤ brkL m.vx m.vy B := by
  obtain ⟨h2, h1⟩ := brkL_sq (vx := m.vx) (vy := m.vy) hB h
  have h3 := brk_sqr (vx := m.vx) (vy := m.vy) hB h
  show isq (sqr (brkX m.vx m.vy B) (brkY m.vx m.vy B)) ≤ _
  have h4 : brkL m.vx m.vy B ≤ 4294967295 := by
    have : brkL m.vx m.vy B < 4294967296 := lt_of_sq (by decide) (by have e : (4294967296 : Int) * 4294967296 = 18446744073709551616 := (by decide); omega)
    omega
  have h5 := isq_mono h3 (by omega)
  rw [isq_sq h1 h4] at h5
  exact h5
theorem ok_sqr {m : Mo} {S A B H M : Int} (h : m.ok S A B H M) : sqr m.vx m.vy ≤ S * S ∧ 1 ≤ S ∧ S ≤ 4096 ∧ 1 ≤ B ∧ B ≤ 4096 ∧ sqr m.vx m.vy < 18446744073709551616 := by
  obtain ⟨h1, _, _, _, _, h6⟩ := vld_true h
  have hc := chk_true h1
  have := sq_le (a := S) (b := 4096) (by omega) (by omega)
  exact ⟨h6, by omega, by omega, by omega, by omega, by omega⟩
theorem brk1_ok {m : Mo} {S A B H M : Int} (h : m.ok S A B H M) : (brk1 B m).ok S A B H M := by
  obtain ⟨k1, k2, k3, k4, k5, k6⟩ := ok_sqr h
  obtain ⟨h1, _⟩ := vld_true h
  have a := clp_range (m.px + brkX m.vx m.vy B)
  have b := clp_range (m.py + brkY m.vx m.vy B)
  have c := brk_sqr (vx := m.vx) (vy := m.vy) (B := B) (by omega) k6
  have d := (brkL_sq (vx := m.vx) (vy := m.vy) (B := B) (by omega) k6).1
  exact vld_of h1 a.1 a.2 b.1 b.2 (by show sqr (brkX m.vx m.vy B) (brkY m.vx m.vy B) ≤ S * S; omega)
theorem ok_len {m : Mo} {S A B H M : Int} (h : m.ok S A B H M) : 0 ≤ m.len ∧ m.len ≤ S := by
  obtain ⟨k1, k2, k3, k4, k5, k6⟩ := ok_sqr h
  obtain ⟨a, b, c⟩ := isq_spec (sqr_nonneg m.vx m.vy) k6
  exact ⟨a, le_of_sq (by omega) (by show isq _ * isq _ ≤ _; omega)⟩
theorem brk1_lt {m : Mo} {S A B H M : Int} (h : m.ok S A B H M) (hv : ¬ (m.vx = 0 ∧ m.vy = 0)) : (brk1 B m).len + 1 ≤ m.len := by
  obtain ⟨k1, k2, k3, k4, k5, k6⟩ := ok_sqr h
  have a := brk_len (m := m) (B := B) (by omega) k6
  have b := len_pos hv k6
  have c : brkL m.vx m.vy B = max 0 (m.len - B) := rfl
  omega
end Go.Proofs.Ytfcianhmfpenhaa
