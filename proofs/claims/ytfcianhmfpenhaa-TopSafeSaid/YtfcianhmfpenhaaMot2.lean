/- Motion, in plain Lean: braking, the velocity after a tick. No program in sight. -/
import Derived.Test.YtfcianhmfpenhaaMot
namespace Go.Proofs.Ytfcianhmfpenhaa
/-- the velocity after braking -/
def brkL (vx vy B : Int) : Int := max 0 (isq (sqr vx vy) - B)
def brkX (vx vy B : Int) : Int := scl (sqr vx vy) vx (brkL vx vy B)
def brkY (vx vy B : Int) : Int := scl (sqr vx vy) vy (brkL vx vy B)
theorem brkL_lo {vx vy B : Int} (h : isq (sqr vx vy) ≤ B) : brkL vx vy B = 0 := by unfold brkL; omega
theorem brkL_hi {vx vy B : Int} (h : B < isq (sqr vx vy)) : brkL vx vy B = (isq (sqr vx vy) - B) := by unfold brkL; omega
theorem scl_range {x y l b : Int} (hl : 0 ≤ l) (hn : sqr x y < 18446744073709551616) (h1 : -b ≤ x) (h2 : x ≤ b) (h3 : -b ≤ y) (h4 : y ≤ b) :
    -b ≤ scl (sqr x y) x l ∧ scl (sqr x y) x l ≤ b ∧ -b ≤ scl (sqr x y) y l ∧ scl (sqr x y) y l ≤ b := by
  obtain ⟨f1, f2, f3, f4, _⟩ := scl_spec hl hn
  refine ⟨?_, ?_, ?_, ?_⟩
  · rcases Int.lt_or_le x 0 with h | h
    · have := f2 (by omega); omega
    · have := f1 h; omega
  · rcases Int.lt_or_le x 0 with h | h
    · have := f2 (by omega); omega
    · have := f1 h; omega
  · rcases Int.lt_or_le y 0 with h | h
    · have := f4 (by omega); omega
    · have := f3 h; omega
  · rcases Int.lt_or_le y 0 with h | h
    · have := f4 (by omega); omega
    · have := f3 h; omega
theorem brk_range {vx vy B : Int} (h1 : -4096 ≤ vx) (h2 : vx ≤ 4096) (h3 : -4096 ≤ vy) (h4 : vy ≤ 4096) : -4096 ≤ brkX vx vy B ∧ brkX vx vy B ≤ 4096 ∧ -4096 ≤ brkY vx vy B ∧ brkY vx vy B ≤ 4096 := by
  have := sqr_le (x := vx) (y := vy) (b := 4096) (by omega) (by omega) (by omega) (by omega)
  exact scl_range (by unfold brkL; omega) (by omega) h1 h2 h3 h4

/-! halving a change of the velocity -/
def hlv : Nat → Int → Int → Int → Int → Int → Int × Int
  | 0, _, _, _, dx, dy => (dx, dy)
  | k + 1, vx, vy, S2, dx, dy => if sqr (vx + dx) (vy + dy) ≤ S2 ∨ (dx = 0 ∧ dy = 0) then (dx, dy) else hlv k vx vy S2 (dx.tdiv 2) (dy.tdiv 2)
theorem hlv_stop {k : Nat} {vx vy S2 dx dy : Int} (h : sqr (vx + dx) (vy + dy) ≤ S2 ∨ (dx = 0 ∧ dy = 0)) : hlv k vx vy S2 dx dy = (dx, dy) := by
  cases k with
  | zero => rfl
  | succ k => unfold hlv; rw [if_pos h]
theorem hlv_go {k : Nat} {vx vy S2 dx dy : Int} (h : ¬ (sqr (vx + dx) (vy + dy) ≤ S2 ∨ (dx = 0 ∧ dy = 0))) : hlv (k + 1) vx vy S2 dx dy = hlv k vx vy S2 (dx.tdiv 2) (dy.tdiv 2) := by
  show (if _ then _ else _) = _
  rw [if_neg h]
theorem tdiv2 (d : Int) : (0 ≤ d → 0 ≤ d.tdiv 2 ∧ d.tdiv 2 * 2 ≤ d) ∧ (d ≤ 0 → d.tdiv 2 ≤ 0 ∧ d ≤ d.tdiv 2 * 2) := tdiv_bound (by decide)
theorem tdiv2_lt {d p : Int} (h1 : -(p + p) < d) (h2 : d < p + p) : -p < d.tdiv 2 ∧ d.tdiv 2 < p := by
  have := tdiv2 d
  rcases Int.lt_or_le d 0 with h | h
  · have := this.2 (by omega); omega
  · have := this.1 h; omega
/-- it ends where the speed is kept, or at no change; no coordinate grows -/
theorem hlv_end : ∀ (k : Nat) (vx vy S2 dx dy : Int), -(2 : Int) ^ k < dx → dx < 2 ^ k → -(2 : Int) ^ k < dy → dy < 2 ^ k →
    sqr (vx + (hlv k vx vy S2 dx dy).1) (vy + (hlv k vx vy S2 dx dy).2) ≤ S2 ∨ ((hlv k vx vy S2 dx dy).1 = 0 ∧ (hlv k vx vy S2 dx dy).2 = 0)
  | 0, vx, vy, S2, dx, dy, h1, h2, h3, h4 => by
    simp at h1 h2 h3 h4
    exact Or.inr ⟨by show dx = 0; omega, by show dy = 0; omega⟩
  | k + 1, vx, vy, S2, dx, dy, h1, h2, h3, h4 => by
    by_cases h : sqr (vx + dx) (vy + dy) ≤ S2 ∨ (dx = 0 ∧ dy = 0)
    · rw [hlv_stop h]; exact h
    · rw [hlv_go h]
      have e : (2 : Int) ^ (k + 1) = 2 ^ k + 2 ^ k := by rw [Int.pow_succ]; omega
      rw [e] at h1 h2 h3 h4
      have a := tdiv2_lt h1 h2
      have b := tdiv2_lt h3 h4
      exact hlv_end k vx vy S2 _ _ a.1 a.2 b.1 b.2
theorem sq_tdiv2 (d : Int) : d.tdiv 2 * d.tdiv 2 ≤ d * d := by
  have h := tdiv2 d
  rcases Int.lt_or_le d 0 with h0 | h0
  · have h1 := h.2 (by omega)
    have h2 := sq_le (a := -(d.tdiv 2)) (b := -d) (by omega) (by omega)
    rw [Int.neg_mul_neg, Int.neg_mul_neg] at h2
    exact h2
  · have h1 := h.1 h0
    exact sq_le h1.1 (by omega)
theorem hlv_le : ∀ (k : Nat) (vx vy S2 dx dy : Int), sqr (hlv k vx vy S2 dx dy).1 (hlv k vx vy S2 dx dy).2 ≤ sqr dx dy
  | 0, _, _, _, _, _ => Int.le_refl _
  | k + 1, vx, vy, S2, dx, dy => by
    by_cases h : sqr (vx + dx) (vy + dy) ≤ S2 ∨ (dx = 0 ∧ dy = 0)
    · rw [hlv_stop h]; exact Int.le_refl _
    · rw [hlv_go h]
      have a := hlv_le k vx vy S2 (dx.tdiv 2) (dy.tdiv 2)
      have b := sq_tdiv2 dx
      have c := sq_tdiv2 dy
      have e : sqr (dx.tdiv 2) (dy.tdiv 2) = dx.tdiv 2 * dx.tdiv 2 + dy.tdiv 2 * dy.tdiv 2 := rfl
      have e2 : sqr dx dy = dx * dx + dy * dy := rfl
      omega
/-- the wanted velocity, limited; the change towards it, limited; what is left of it -/
def wX (wx wy S : Int) : Int := scl (sqr (clp wx) (clp wy)) (clp wx) S
def wY (wx wy S : Int) : Int := scl (sqr (clp wx) (clp wy)) (clp wy) S
def dX (vx vy wx wy S A : Int) : Int := scl (sqr (wX wx wy S - vx) (wY wx wy S - vy)) (wX wx wy S - vx) A
def dY (vx vy wx wy S A : Int) : Int := scl (sqr (wX wx wy S - vx) (wY wx wy S - vy)) (wY wx wy S - vy) A
def stpX (vx vy wx wy S A : Int) : Int := vx + (hlv 21 vx vy (S * S) (dX vx vy wx wy S A) (dY vx vy wx wy S A)).1
def stpY (vx vy wx wy S A : Int) : Int := vy + (hlv 21 vx vy (S * S) (dX vx vy wx wy S A) (dY vx vy wx wy S A)).2
theorem wXY_range (wx wy S : Int) (h : 0 ≤ S) : -1048576 ≤ wX wx wy S ∧ wX wx wy S ≤ 1048576 ∧ -1048576 ≤ wY wx wy S ∧ wY wx wy S ≤ 1048576 := by
  have a := clp_range wx
  have b := clp_range wy
  have := sqr_le (x := clp wx) (y := clp wy) (b := 1048576) (by omega) (by omega) (by omega) (by omega)
  exact scl_range h (by omega) a.1 a.2 b.1 b.2
theorem dXY_range {vx vy wx wy S A : Int} (hS : 0 ≤ S) (hA : 0 ≤ A) (h1 : -4096 ≤ vx) (h2 : vx ≤ 4096) (h3 : -4096 ≤ vy) (h4 : vy ≤ 4096) :
    -1052672 ≤ dX vx vy wx wy S A ∧ dX vx vy wx wy S A ≤ 1052672 ∧ -1052672 ≤ dY vx vy wx wy S A ∧ dY vx vy wx wy S A ≤ 1052672 := by
  have a := wXY_range wx wy S hS
  have := sqr_le (x := wX wx wy S - vx) (y := wY wx wy S - vy) (b := 1052672) (by omega) (by omega) (by omega) (by omega)
  exact scl_range hA (by omega) (by omega) (by omega) (by omega) (by omega)
theorem sqr_abs {x y b : Int} (hb : 0 ≤ b) (h : sqr x y ≤ b * b) : -b ≤ x ∧ x ≤ b ∧ -b ≤ y ∧ y ≤ b := abs_of_sqr hb h
/-- the speed is kept -/
theorem stp_speed {vx vy wx wy S A : Int} (hS : 0 ≤ S) (hA : 0 ≤ A) (h1 : -4096 ≤ vx) (h2 : vx ≤ 4096) (h3 : -4096 ≤ vy) (h4 : vy ≤ 4096) (hv : sqr vx vy ≤ S * S) : sqr (stpX vx vy wx wy S A) (stpY vx vy wx wy S A) ≤ S * S := by
  obtain ⟨a, b, c, d⟩ := dXY_range (wx := wx) (wy := wy) hS hA h1 h2 h3 h4
  have e : (2 : Int) ^ 21 = 2097152 := by decide
  unfold stpX stpY
  rcases hlv_end 21 vx vy (S * S) (dX vx vy wx wy S A) (dY vx vy wx wy S A) (by omega) (by omega) (by omega) (by omega) with h | ⟨h, h'⟩
  · exact h
  · rw [h, h']; simpa using hv
/-- and so is the change -/
theorem stp_accel {vx vy wx wy S A : Int} (hS : 0 ≤ S) (hA : 0 ≤ A) (h1 : -4096 ≤ vx) (h2 : vx ≤ 4096) (h3 : -4096 ≤ vy) (h4 : vy ≤ 4096) : sqr (stpX vx vy wx wy S A - vx) (stpY vx vy wx wy S A - vy) ≤ A * A := by
  have a := wXY_range wx wy S hS
  have := sqr_le (x := wX wx wy S - vx) (y := wY wx wy S - vy) (b := 1052672) (by omega) (by omega) (by omega) (by omega)
  obtain ⟨_, _, _, _, f5⟩ := scl_spec (x := wX wx wy S - vx) (y := wY wx wy S - vy) hA (by omega)
  have g := hlv_le 21 vx vy (S * S) (dX vx vy wx wy S A) (dY vx vy wx wy S A)
  unfold stpX stpY
  rw [show vx + (hlv 21 vx vy (S * S) (dX vx vy wx wy S A) (dY vx vy wx wy S A)).1 - vx = (hlv 21 vx vy (S * S) (dX vx vy wx wy S A) (dY vx vy wx wy S A)).1 from by omega, show vy + (hlv 21 vx vy (S * S) (dX vx vy wx wy S A) (dY vx vy wx wy S A)).2 - vy = (hlv 21 vx vy (S * S) (dX vx vy wx wy S A) (dY vx vy wx wy S A)).2 from by omega]
  exact Int.le_trans g f5
/-- what is wanted already -/
theorem stp_steady {vx vy S A : Int} (hS : 0 ≤ S) (hS2 : S ≤ 4096) (hA : 0 ≤ A) (hv : sqr vx vy ≤ S * S) : stpX vx vy vx vy S A = vx ∧ stpY vx vy vx vy S A = vy := by
  have a := abs_of_sqr hS hv
  have cx : clp vx = vx := clp_id (by omega) (by omega)
  have cy : clp vy = vy := clp_id (by omega) (by omega)
  have w1 : wX vx vy S = vx := by unfold wX; rw [cx, cy]; exact scl_id hv
  have w2 : wY vx vy S = vy := by unfold wY; rw [cx, cy]; exact scl_id hv
  have z : sqr 0 0 ≤ A * A := by have := Int.mul_nonneg hA hA; simpa [sqr] using this
  have d1 : dX vx vy vx vy S A = 0 := by unfold dX; rw [w1, w2, Int.sub_self, Int.sub_self]; exact scl_id z
  have d2 : dY vx vy vx vy S A = 0 := by unfold dY; rw [w1, w2, Int.sub_self, Int.sub_self]; exact scl_id z
  unfold stpX stpY
  rw [d1, d2, hlv_stop (Or.inr ⟨rfl, rfl⟩)]
  exact ⟨Int.add_zero _, Int.add_zero _⟩
end Go.Proofs.Ytfcianhmfpenhaa
