import Derived.Test.YtfcianhmfpenhaaPlain
namespace Go.Proofs.Ytfcianhmfpenhaa
theorem cauchy (X Y U V : Int) : (X * U + Y * V) * (X * U + Y * V) + (X * V - Y * U) * (X * V - Y * U) = sqr X Y * sqr U V := by
  unfold sqr
  grind
theorem sqr_sub_comm (X Y U V : Int) : sqr (U - X) (V - Y) = sqr (X - U) (Y - V) := by
  unfold sqr
  grind
theorem sqr_sub (X Y U V : Int) : sqr (X - U) (Y - V) = sqr X Y + sqr U V - 2 * (X * U + Y * V) := by
  unfold sqr
  grind
theorem triangle {X Y U V : Int} (h1 : sqr X Y < 18446744073709551616) (h2 : sqr U V < 18446744073709551616) (h3 : sqr (X - U) (Y - V) < 18446744073709551616) :
    isq (sqr (X - U) (Y - V)) ≤ isq (sqr X Y) + isq (sqr U V) + 1 := by
  obtain ⟨a0, a1, a2⟩ := isq_spec (sqr_nonneg X Y) h1
  obtain ⟨b0, b1, b2⟩ := isq_spec (sqr_nonneg U V) h2
  obtain ⟨c0, c1, c2⟩ := isq_spec (sqr_nonneg (X - U) (Y - V)) h3
  generalize isq (sqr X Y) = a at *
  generalize isq (sqr U V) = b at *
  generalize isq (sqr (X - U) (Y - V)) = c at *
  have hs := sqr_sub X Y U V
  have hc := cauchy X Y U V
  have hd := sq_self_nonneg (X * V - Y * U)
  have hA := sqr_nonneg X Y
  have hB := sqr_nonneg U V
  generalize sqr X Y = A at *
  generalize sqr U V = B at *
  generalize sqr (X - U) (Y - V) = C at *
  generalize X * U + Y * V = D at *
  have e1 : A * B ≤ ((a + 1) * (b + 1)) * ((a + 1) * (b + 1)) := by
    have g1 : A * B ≤ ((a + 1) * (a + 1)) * ((b + 1) * (b + 1)) := Int.mul_le_mul (by omega) (by omega) hB (by omega)
    have g2 : ((a + 1) * (a + 1)) * ((b + 1) * (b + 1)) = ((a + 1) * (b + 1)) * ((a + 1) * (b + 1)) := by grind
    omega
  have p : 0 ≤ (a + 1) * (b + 1) := Int.mul_nonneg (by omega) (by omega)
  have e2 : -D ≤ (a + 1) * (b + 1) := le_of_sq p (by
    have : -D * -D = D * D := by grind
    omega)
  have e3 : c < a + b + 2 := lt_of_sq (by omega) (by
    have : (a + b + 2) * (a + b + 2) = (a + 1) * (a + 1) + (b + 1) * (b + 1) + 2 * ((a + 1) * (b + 1)) := by grind
    omega)
  omega
end Go.Proofs.Ytfcianhmfpenhaa
