/- Plain law: a robot that brakes stands still behind as many ticks as braking takes. -/
import Derived.Test.YtfcianhmfpenhaaMot3
namespace Go.Proofs.Ytfcianhmfpenhaa
/-- the bound of the speed behind k ticks of braking -/
def vb (S B : Int) (k : Nat) : Int := max 0 (S - k * B)
theorem vb_nonneg (S B : Int) (k : Nat) : 0 ≤ vb S B k := by unfold vb; omega
theorem vb_zero {S B : Int} (h : 0 ≤ S) : vb S B 0 = S := by unfold vb; simp; omega
theorem vb_succ {S B : Int} (hB : 0 ≤ B) (k : Nat) : max 0 (vb S B k - B) = vb S B (k + 1) := by
  unfold vb
  have e : ((k + 1 : Nat) : Int) * B = k * B + B := by rw [Int.natCast_add, Int.add_mul]; simp
  rw [e]
  omega
theorem brk_bound {vx vy B L : Int} (hB : 0 ≤ B) (hL : 0 ≤ L) (hL2 : L ≤ 4096) (h : sqr vx vy ≤ L * L) : sqr (brkX vx vy B) (brkY vx vy B) ≤ max 0 (L - B) * max 0 (L - B) := by
  have h0 := sqr_nonneg vx vy
  have h1 : L * L ≤ 4096 * 4096 := sq_le hL hL2
  have hlt : sqr vx vy < 18446744073709551616 := by omega
  have b1 := brk_sqr (B := B) hB hlt
  obtain ⟨i1, i2, _⟩ := isq_spec h0 hlt
  have i3 : isq (sqr vx vy) ≤ L := le_of_sq hL (by omega)
  have b2 : brkL vx vy B ≤ max 0 (L - B) := by unfold brkL; omega
  have b3 : 0 ≤ brkL vx vy B := by unfold brkL; omega
  exact Int.le_trans b1 (sq_le b3 b2)
/-- how many ticks braking takes -/
def most (S B : Int) : Int := (S + B - 1) / B
theorem most_spec {S B : Int} (hS : 1 ≤ S) (hB : 1 ≤ B) : 1 ≤ most S B ∧ most S B ≤ S ∧ S ≤ most S B * B := by
  have h1 := Int.mul_ediv_add_emod (S + B - 1) B
  have h2 := Int.emod_nonneg (S + B - 1) (show B ≠ 0 by omega)
  have h3 := Int.emod_lt_of_pos (S + B - 1) (show 0 < B by omega)
  have e : B * ((S + B - 1) / B) = most S B * B := by rw [Int.mul_comm]; rfl
  rw [e] at h1
  have h4 : 1 ≤ most S B := by
    rcases Int.lt_or_le (most S B) 1 with h | h
    · have : most S B * B ≤ 0 * B := Int.mul_le_mul_of_nonneg_right (by omega) (by omega)
      omega
    · exact h
  refine ⟨h4, ?_, by omega⟩
  rcases Int.lt_or_le S (most S B) with h | h
  · have : (S + 1) * B ≤ most S B * B := Int.mul_le_mul_of_nonneg_right (by omega) (by omega)
    have e2 : (S + 1) * B = S * B + B := by rw [Int.add_mul]; simp
    have : S * 1 ≤ S * B := Int.mul_le_mul_of_nonneg_left hB (by omega)
    omega
  · exact h
theorem vb_end {S B : Int} (hS : 1 ≤ S) (hB : 1 ≤ B) {k : Nat} (h : most S B ≤ k) : vb S B k = 0 := by
  have h1 := (most_spec hS hB).2.2
  have h2 : most S B * B ≤ (k : Int) * B := Int.mul_le_mul_of_nonneg_right h (by omega)
  unfold vb
  omega
theorem sq_le_zero {x y L : Int} (hL : L = 0) (h : sqr x y ≤ L * L) : x = 0 ∧ y = 0 := by
  subst hL
  have := abs_of_sqr (S := 0) (by omega) h
  omega
end Go.Proofs.Ytfcianhmfpenhaa
