/- Motion, in plain Lean: limits, valid motions, clamped points. No program in sight. -/
import Derived.Test.YtfcianhmfpenhaaPts
namespace Go.Proofs.Ytfcianhmfpenhaa

def inB (n lo hi : Int) : Bool := decide (lo ≤ n ∧ n ≤ hi)
theorem inB_true {n lo hi : Int} (h : inB n lo hi = true) : lo ≤ n ∧ n ≤ hi := by unfold inB at h; simpa using h
theorem inB_mk {n lo hi : Int} (h1 : lo ≤ n) (h2 : n ≤ hi) : inB n lo hi = true := by unfold inB; simp [h1, h2]
theorem inB_false {n lo hi : Int} (h : inB n lo hi = false) : n < lo ∨ hi < n := by unfold inB at h; simp at h; omega
/-- are limits valid -/
def chk (S A B H M : Int) : Bool := inB S 1 4096 && (inB A 1 S && (inB B 1 S && (inB H 0 4096 && inB M 0 1048576)))
def chkE (S A B H M : Int) : Int := if chk S A B H M then 0 else 4
theorem chk_true {S A B H M : Int} (h : chk S A B H M = true) : 1 ≤ S ∧ S ≤ 4096 ∧ 1 ≤ A ∧ A ≤ S ∧ 1 ≤ B ∧ B ≤ S ∧ 0 ≤ H ∧ H ≤ 4096 ∧ 0 ≤ M ∧ M ≤ 1048576 := by
  unfold chk at h
  simp only [Bool.and_eq_true] at h
  obtain ⟨h1, h2, h3, h4, h5⟩ := h
  have := inB_true h1
  have := inB_true h2
  have := inB_true h3
  have := inB_true h4
  have := inB_true h5
  omega
def rchB (x y : Int) : Bool := inB x (-1048576) 1048576 && inB y (-1048576) 1048576
theorem rchB_true {x y : Int} (h : rchB x y = true) : -1048576 ≤ x ∧ x ≤ 1048576 ∧ -1048576 ≤ y ∧ y ≤ 1048576 := by
  unfold rchB at h
  simp only [Bool.and_eq_true] at h
  have := inB_true h.1
  have := inB_true h.2
  omega
def clp (n : Int) : Int := clampI n (-1048576) 1048576
theorem clp_range (n : Int) : -1048576 ≤ clp n ∧ clp n ≤ 1048576 := by unfold clp clampI; (repeat' split) <;> omega
theorem clp_id {n : Int} (h1 : -1048576 ≤ n) (h2 : n ≤ 1048576) : clp n = n := by unfold clp clampI; (repeat' split) <;> omega
theorem clp_iff {n : Int} (h : n = clp n) : -1048576 ≤ n ∧ n ≤ 1048576 := by rw [h]; exact clp_range n
/-- is a motion valid -/
def sqOk (vx vy S : Int) : Bool := decide (sqr vx vy ≤ S * S)
def vld (px py vx vy S A B H M : Int) : Bool := chk S A B H M && (rchB px py && (rchB vx vy && sqOk vx vy S))
theorem vld_true {px py vx vy S A B H M : Int} (h : vld px py vx vy S A B H M = true) : chk S A B H M = true ∧ -1048576 ≤ px ∧ px ≤ 1048576 ∧ -1048576 ≤ py ∧ py ≤ 1048576 ∧ sqr vx vy ≤ S * S := by
  unfold vld at h
  simp only [Bool.and_eq_true] at h
  obtain ⟨h1, h2, h3, h4⟩ := h
  have := rchB_true h2
  exact ⟨h1, by omega, by omega, by omega, by omega, by unfold sqOk at h4; simpa using h4⟩
theorem abs_of_sqr {x y S : Int} (hS : 0 ≤ S) (h : sqr x y ≤ S * S) : -S ≤ x ∧ x ≤ S ∧ -S ≤ y ∧ y ≤ S := by
  have hx := sq_self_nonneg x
  have hy := sq_self_nonneg y
  unfold sqr at h
  have a1 : x ≤ S := le_of_sq hS (by omega)
  have a2 : y ≤ S := le_of_sq hS (by omega)
  have a3 : -x ≤ S := le_of_sq hS (by rw [Int.neg_mul_neg]; omega)
  have a4 : -y ≤ S := le_of_sq hS (by rw [Int.neg_mul_neg]; omega)
  omega
theorem vld_of {px py vx vy S A B H M : Int} (h : chk S A B H M = true) (h1 : -1048576 ≤ px) (h2 : px ≤ 1048576) (h3 : -1048576 ≤ py) (h4 : py ≤ 1048576) (h5 : sqr vx vy ≤ S * S) : vld px py vx vy S A B H M = true := by
  have hc := chk_true h
  have ha := abs_of_sqr (by omega) h5
  unfold vld rchB sqOk
  rw [h, inB_mk h1 h2, inB_mk h3 h4, inB_mk (by omega) (by omega), inB_mk (by omega) (by omega), decide_eq_true h5]
  rfl
theorem vld_abs {px py vx vy S A B H M : Int} (h : vld px py vx vy S A B H M = true) : -4096 ≤ vx ∧ vx ≤ 4096 ∧ -4096 ≤ vy ∧ vy ≤ 4096 := by
  obtain ⟨h1, _, _, _, _, h6⟩ := vld_true h
  have := chk_true h1
  have := abs_of_sqr (by omega) h6
  omega
/-- the program's way to say so -/
theorem vld_prog {px py vx vy S A B H M : Int} : vld px py vx vy S A B H M = (chk S A B H M && (inB vx (-S) S && (inB vy (-S) S && (sqOk vx vy S && (decide (px = clp px) && decide (py = clp py)))))) := by
  rw [Bool.eq_iff_iff]
  constructor
  · intro h
    obtain ⟨h1, h2, h3, h4, h5, h6⟩ := vld_true h
    have hc := chk_true h1
    have ha := abs_of_sqr (by omega) h6
    simp only [Bool.and_eq_true, decide_eq_true_eq]
    exact ⟨h1, inB_mk ha.1 ha.2.1, inB_mk ha.2.2.1 ha.2.2.2, by unfold sqOk; simpa using h6, (clp_id h2 h3).symm, (clp_id h4 h5).symm⟩
  · intro h
    simp only [Bool.and_eq_true, decide_eq_true_eq] at h
    obtain ⟨h1, h2, h3, h4, h5, h6⟩ := h
    have a := clp_iff h5
    have b := clp_iff h6
    exact vld_of h1 a.1 a.2 b.1 b.2 (by unfold sqOk at h4; simpa using h4)
end Go.Proofs.Ytfcianhmfpenhaa
