/- What the functions of package fixed compute, in plain Lean: saturated products and quotients, integer square roots, scaled vectors. No program in sight. -/
namespace Go.Proofs.Ytfcianhmfpenhaa

def absI (n : Int) : Int := if n < 0 then -n else n
def negB (a b : Int) : Bool := decide (a < 0) != decide (b < 0)
/-- limited to 2^47, with a sign -/
def satI (neg : Bool) (n : Int) : Int := if neg then -(min n 140737488355328) else min n 140737488355328
/-- the product, for all a, b -/
def mulI (a b : Int) : Int := satI (negB a b) ((absI a * absI b + 32768) / 65536)
/-- the rounded quotient of magnitudes, for 1 ≤ y -/
def quoI (x y : Int) : Int := x * 65536 / y + if y - x * 65536 % y ≤ x * 65536 % y then 1 else 0
def divI (a b : Int) : Int := if b = 0 then 0 else satI (negB a b) (quoI (absI a) (absI b))
def divE (b : Int) : Int := if b = 0 then 8 else 0

theorem absI_nonneg (n : Int) : 0 ≤ absI n := by unfold absI; split <;> omega
theorem absI_le {n : Int} (h1 : -9223372036854775808 ≤ n) (h2 : n ≤ 9223372036854775807) : 0 ≤ absI n ∧ absI n ≤ 9223372036854775808 := by unfold absI; split <;> omega
theorem sat_big {neg : Bool} {n m : Int} (h1 : 140737488355328 ≤ n) (h2 : 140737488355328 ≤ m) : satI neg n = satI neg m := by
  unfold satI; rw [show min n 140737488355328 = min m 140737488355328 from by omega]
theorem sat_eq_of {neg : Bool} {n m : Int} (h : n = m) : satI neg n = satI neg m := by rw [h]
theorem sat_range (neg : Bool) {n : Int} (h : 0 ≤ n) : -140737488355328 ≤ satI neg n ∧ satI neg n ≤ 140737488355328 := by
  unfold satI; split <;> omega

/-- n limited to the interval from lo to hi -/
def clampI (n lo hi : Int) : Int := if n < lo then lo else if hi < n then hi else n

/-! integer square roots -/
def isqB : Nat → Int → Int → Int
  | 0, r, _ => r
  | k + 1, r, n => if (r + 2 ^ k) * (r + 2 ^ k) ≤ n then isqB k (r + 2 ^ k) n else isqB k r n
/-- the greatest integer whose square is at most n; 0 for n < 0 -/
def isq (n : Int) : Int := isqB 32 0 n
theorem isqB_yes {k : Nat} {r n : Int} (h : (r + 2 ^ k) * (r + 2 ^ k) ≤ n) : isqB (k + 1) r n = isqB k (r + 2 ^ k) n := by
  show (if (r + 2 ^ k) * (r + 2 ^ k) ≤ n then isqB k (r + 2 ^ k) n else isqB k r n) = _
  rw [if_pos h]
theorem isqB_no {k : Nat} {r n : Int} (h : ¬ (r + 2 ^ k) * (r + 2 ^ k) ≤ n) : isqB (k + 1) r n = isqB k r n := by
  show (if (r + 2 ^ k) * (r + 2 ^ k) ≤ n then isqB k (r + 2 ^ k) n else isqB k r n) = _
  rw [if_neg h]
theorem two_pow_pos (k : Nat) : (0 : Int) < 2 ^ k := Int.pow_pos (by decide)
theorem isqB_spec : ∀ (k : Nat) (r n : Int), 0 ≤ r → r * r ≤ n → n < (r + 2 ^ k) * (r + 2 ^ k) → r ≤ isqB k r n ∧ isqB k r n * isqB k r n ≤ n ∧ n < (isqB k r n + 1) * (isqB k r n + 1)
  | 0, r, n, _, h1, h2 => ⟨Int.le_refl _, h1, h2⟩
  | k + 1, r, n, h0, h1, h2 => by
    have hp := two_pow_pos k
    unfold isqB
    split
    · rename_i hc
      have := isqB_spec k (r + 2 ^ k) n (by omega) hc (by rw [show r + 2 ^ k + 2 ^ k = r + 2 ^ (k + 1) from by rw [Int.pow_succ]; omega]; exact h2)
      exact ⟨by omega, this.2⟩
    · rename_i hc
      exact isqB_spec k r n h0 h1 (by omega)
theorem isqB_neg : ∀ (k : Nat) (n : Int), n ≤ 0 → isqB k 0 n = 0
  | 0, _, _ => rfl
  | k + 1, n, h => by
    have hp := two_pow_pos k
    have : (0 : Int) < 2 ^ k * 2 ^ k := Int.mul_pos hp hp
    unfold isqB
    rw [Int.zero_add, if_neg (by omega)]
    exact isqB_neg k n h
theorem isq_neg {n : Int} (h : n ≤ 0) : isq n = 0 := isqB_neg 32 n h
theorem isq_spec {n : Int} (h0 : 0 ≤ n) (h1 : n < 18446744073709551616) : 0 ≤ isq n ∧ isq n * isq n ≤ n ∧ n < (isq n + 1) * (isq n + 1) :=
  isqB_spec 32 0 n (Int.le_refl 0) (by simpa using h0) (by rw [show ((0 : Int) + 2 ^ 32) * (0 + 2 ^ 32) = 18446744073709551616 from by decide]; exact h1)
theorem sq_lt {a b : Int} (ha : 0 ≤ a) (h : a < b) : a * a < b * b := by
  have h1 : a * a ≤ a * b := Int.mul_le_mul_of_nonneg_left (by omega) ha
  have h2 : a * b < b * b := Int.mul_lt_mul_of_pos_right h (by omega)
  omega
theorem sq_le {a b : Int} (ha : 0 ≤ a) (h : a ≤ b) : a * a ≤ b * b := by
  rcases Int.lt_or_le a b with h1 | h1
  · exact Int.le_of_lt (sq_lt ha h1)
  · rw [show a = b from by omega]; exact Int.le_refl _
theorem le_of_sq {a b : Int} (hb : 0 ≤ b) (h : a * a ≤ b * b) : a ≤ b := by
  rcases Int.lt_or_le b a with h1 | h1
  · have := sq_lt hb h1; omega
  · exact h1
theorem lt_of_sq {a b : Int} (hb : 0 ≤ b) (h : a * a < b * b) : a < b := by
  rcases Int.lt_or_le a b with h1 | h1
  · exact h1
  · have := sq_le hb h1; omega
theorem isq_unique {n r : Int} (h0 : 0 ≤ r) (h1 : r * r ≤ n) (h2 : n < (r + 1) * (r + 1)) (hn : n < 18446744073709551616) : isq n = r := by
  have hr : 0 ≤ r * r := Int.mul_nonneg h0 h0
  obtain ⟨s0, s1, s2⟩ := isq_spec (n := n) (by omega) hn
  have a1 : isq n < r + 1 := lt_of_sq (by omega) (by omega)
  have a2 : r < isq n + 1 := lt_of_sq (by omega) (by omega)
  omega
theorem isq_le {n : Int} (hn : n ≤ 9223372036854775807) : 0 ≤ isq n ∧ isq n ≤ 3037000499 := by
  rcases Int.lt_or_le n 0 with h | h
  · rw [isq_neg (by omega)]; decide
  · obtain ⟨s0, s1, s2⟩ := isq_spec h (by omega)
    refine ⟨s0, ?_⟩
    have : isq n < 3037000500 := lt_of_sq (by decide) (by have e : (3037000500 : Int) * 3037000500 = 9223372037000250000 := (by decide); omega)
    omega
theorem isq_mono {n m : Int} (h : n ≤ m) (hm : m < 18446744073709551616) : isq n ≤ isq m := by
  rcases Int.lt_or_le n 0 with h0 | h0
  · rw [isq_neg (by omega)]
    rcases Int.lt_or_le m 0 with h1 | h1
    · rw [isq_neg (by omega)]; exact Int.le_refl _
    · exact (isq_spec h1 hm).1
  · obtain ⟨a0, a1, a2⟩ := isq_spec h0 (by omega)
    obtain ⟨b0, b1, b2⟩ := isq_spec (n := m) (by omega) hm
    have : isq n < isq m + 1 := lt_of_sq (by omega) (by omega)
    omega
theorem isq_sq {r : Int} (h0 : 0 ≤ r) (h1 : r ≤ 4294967295) : isq (r * r) = r := by
  refine isq_unique h0 (Int.le_refl _) (sq_lt h0 (by omega)) ?_
  have := sq_le h0 h1
  omega
/-- r*r ≤ n exactly if r ≤ isq n -/
theorem le_isq {r n : Int} (hr : 0 ≤ r) (h1 : n < 18446744073709551616) (h : r * r ≤ n) : r ≤ isq n := by
  have hn : 0 ≤ r * r := Int.mul_nonneg hr hr
  obtain ⟨b0, b1, b2⟩ := isq_spec (n := n) (by omega) h1
  have : r < isq n + 1 := lt_of_sq (by omega) (by omega)
  omega

/-- the squared length -/
def sqr (x y : Int) : Int := x * x + y * y
/-- the length, rounded up -/
def upr (n : Int) : Int := if isq n * isq n < n then isq n + 1 else isq n
/-- a coordinate of a vector of squared length n, scaled to the limit l -/
def scl (n c l : Int) : Int := if n ≤ l * l then c else (c * l).tdiv (upr n)
theorem sq_self_nonneg (x : Int) : 0 ≤ x * x := by
  rcases Int.lt_or_le x 0 with h | h
  · have := Int.mul_nonneg (show 0 ≤ -x by omega) (show 0 ≤ -x by omega)
    rwa [Int.neg_mul_neg] at this
  · exact Int.mul_nonneg h h
theorem sq_abs_le {x b : Int} (h1 : -b ≤ x) (h2 : x ≤ b) : x * x ≤ b * b := by
  rcases Int.lt_or_le x 0 with h | h
  · have := sq_le (a := -x) (b := b) (by omega) (by omega)
    rwa [Int.neg_mul_neg] at this
  · exact sq_le h h2
theorem sqr_nonneg (x y : Int) : 0 ≤ sqr x y := by
  have := sq_self_nonneg x
  have := sq_self_nonneg y
  unfold sqr; omega
theorem sqr_le {x y b : Int} (h1 : -b ≤ x) (h2 : x ≤ b) (h3 : -b ≤ y) (h4 : y ≤ b) : sqr x y ≤ b * b + b * b := by
  have := sq_abs_le h1 h2
  have := sq_abs_le h3 h4
  unfold sqr; omega
theorem upr_spec {n : Int} (h0 : 0 ≤ n) (h1 : n < 18446744073709551616) : 0 ≤ upr n ∧ n ≤ upr n * upr n ∧ (0 < n → 0 < upr n) ∧ upr n ≤ isq n + 1 ∧ isq n ≤ upr n := by
  obtain ⟨a0, a1, a2⟩ := isq_spec h0 h1
  unfold upr
  split
  · exact ⟨by omega, by omega, fun _ => by omega, by omega, by omega⟩
  · refine ⟨a0, by omega, fun hn => ?_, by omega, by omega⟩
    rcases Int.lt_or_le 0 (isq n) with h | h
    · exact h
    · have e : isq n = 0 := by omega
      rw [e] at a2
      rename_i hc
      rw [e] at hc
      omega
theorem tdiv_bound {a b : Int} (hb : 0 < b) : (0 ≤ a → 0 ≤ a.tdiv b ∧ a.tdiv b * b ≤ a) ∧ (a ≤ 0 → a.tdiv b ≤ 0 ∧ a ≤ a.tdiv b * b) := by
  constructor
  · intro h
    rw [Int.tdiv_eq_ediv_of_nonneg h]
    exact ⟨Int.ediv_nonneg h (by omega), Int.ediv_mul_le a (by omega)⟩
  · intro h
    have e : a.tdiv b = -((-a).tdiv b) := by rw [Int.neg_tdiv]; omega
    rw [e, Int.tdiv_eq_ediv_of_nonneg (by omega)]
    have h1 : 0 ≤ (-a) / b := Int.ediv_nonneg (by omega) (by omega)
    have h2 := Int.ediv_mul_le (-a) (show b ≠ 0 by omega)
    rw [Int.neg_mul]
    exact ⟨by omega, by omega⟩
/-- what the scaled coordinate is worth: its sign, that it is no greater, and the square -/
theorem scl_coord {c l u : Int} (hl : 0 ≤ l) (hu : 0 < u) (hlu : l ≤ u) : (0 ≤ c → 0 ≤ (c * l).tdiv u ∧ (c * l).tdiv u ≤ c) ∧ (c ≤ 0 → (c * l).tdiv u ≤ 0 ∧ c ≤ (c * l).tdiv u) ∧ (c * l).tdiv u * (c * l).tdiv u * (u * u) ≤ c * c * (l * l) := by
  obtain ⟨t1, t2⟩ := tdiv_bound (a := c * l) hu
  have key : ∀ q : Int, 0 ≤ c → 0 ≤ q → q * u ≤ c * l → q ≤ c := fun q hc hq h => by
    rcases Int.lt_or_le c q with h1 | h1
    · have h2 : c * l ≤ c * u := Int.mul_le_mul_of_nonneg_left hlu hc
      have h3 : (c + 1) * u ≤ q * u := Int.mul_le_mul_of_nonneg_right (by omega) (by omega)
      rw [Int.add_mul] at h3
      omega
    · exact h1
  have sqs : ∀ q d : Int, 0 ≤ q → 0 ≤ d → q * u ≤ d * l → q * q * (u * u) ≤ d * d * (l * l) := fun q d hq hd h => by
    have h1 : 0 ≤ q * u := Int.mul_nonneg hq (by omega)
    have h2 := sq_le h1 h
    have e1 : q * u * (q * u) = q * q * (u * u) := by rw [Int.mul_assoc, Int.mul_left_comm u q u, ← Int.mul_assoc]
    have e2 : d * l * (d * l) = d * d * (l * l) := by rw [Int.mul_assoc, Int.mul_left_comm l d l, ← Int.mul_assoc]
    rw [e1, e2] at h2
    exact h2
  refine ⟨fun h => ?_, fun h => ?_, ?_⟩
  · obtain ⟨a1, a2⟩ := t1 (Int.mul_nonneg h hl)
    exact ⟨a1, key _ h a1 a2⟩
  · have hn : c * l ≤ 0 := Int.mul_nonpos_of_nonpos_of_nonneg h hl
    obtain ⟨a1, a2⟩ := t2 hn
    refine ⟨a1, ?_⟩
    rcases Int.lt_or_le ((c * l).tdiv u) c with h1 | h1
    · have h2 : c * u ≤ c * l := by
        have := Int.mul_le_mul_of_nonneg_left hlu (show 0 ≤ -c by omega)
        rw [Int.neg_mul, Int.neg_mul] at this
        omega
      have h3 : (c * l).tdiv u * u ≤ (c - 1) * u := Int.mul_le_mul_of_nonneg_right (by omega) (by omega)
      rw [Int.sub_mul] at h3
      omega
    · exact h1
  · rcases Int.lt_or_le c 0 with h | h
    · have hn : c * l ≤ 0 := Int.mul_nonpos_of_nonpos_of_nonneg (by omega) hl
      obtain ⟨a1, a2⟩ := t2 hn
      have := sqs (-((c * l).tdiv u)) (-c) (by omega) (by omega) (by rw [Int.neg_mul, Int.neg_mul]; omega)
      rwa [Int.neg_mul_neg, Int.neg_mul_neg] at this
    · obtain ⟨a1, a2⟩ := t1 (Int.mul_nonneg h hl)
      exact sqs _ _ a1 h a2
/-- The scaled vector: signs, sizes, and that it keeps the limit. -/
theorem scl_spec {x y l : Int} (hl : 0 ≤ l) (hn : sqr x y < 18446744073709551616) :
    (0 ≤ x → 0 ≤ scl (sqr x y) x l ∧ scl (sqr x y) x l ≤ x) ∧ (x ≤ 0 → scl (sqr x y) x l ≤ 0 ∧ x ≤ scl (sqr x y) x l) ∧
    (0 ≤ y → 0 ≤ scl (sqr x y) y l ∧ scl (sqr x y) y l ≤ y) ∧ (y ≤ 0 → scl (sqr x y) y l ≤ 0 ∧ y ≤ scl (sqr x y) y l) ∧
    sqr (scl (sqr x y) x l) (scl (sqr x y) y l) ≤ l * l := by
  have h0 := sqr_nonneg x y
  unfold scl
  by_cases hc : sqr x y ≤ l * l
  · simp only [if_pos hc]
    exact ⟨fun h => ⟨h, Int.le_refl _⟩, fun h => ⟨h, Int.le_refl _⟩, fun h => ⟨h, Int.le_refl _⟩, fun h => ⟨h, Int.le_refl _⟩, hc⟩
  · simp only [if_neg hc]
    obtain ⟨u0, u1, u2, u3⟩ := upr_spec h0 hn
    have hl2 : 0 ≤ l * l := Int.mul_nonneg hl hl
    have hu := u2 (by omega)
    have hlu : l ≤ upr (sqr x y) := le_of_sq u0 (by omega)
    obtain ⟨x1, x2, x3⟩ := scl_coord (c := x) hl hu hlu
    obtain ⟨y1, y2, y3⟩ := scl_coord (c := y) hl hu hlu
    refine ⟨x1, x2, y1, y2, ?_⟩
    generalize (x * l).tdiv (upr (sqr x y)) = p at x3 ⊢
    generalize (y * l).tdiv (upr (sqr x y)) = q at y3 ⊢
    have hu2 : 0 < upr (sqr x y) * upr (sqr x y) := Int.mul_pos hu hu
    rcases Int.lt_or_le (l * l) (sqr p q) with h | h
    · exfalso
      have e1 : sqr p q * (upr (sqr x y) * upr (sqr x y)) = p * p * (upr (sqr x y) * upr (sqr x y)) + q * q * (upr (sqr x y) * upr (sqr x y)) := by unfold sqr; rw [Int.add_mul]
      have e2 : sqr x y * (l * l) = x * x * (l * l) + y * y * (l * l) := by
        show (x * x + y * y) * (l * l) = _
        rw [Int.add_mul]
      have e3 : sqr x y * (l * l) ≤ upr (sqr x y) * upr (sqr x y) * (l * l) := Int.mul_le_mul_of_nonneg_right u1 hl2
      have e4 : (l * l) * (upr (sqr x y) * upr (sqr x y)) < sqr p q * (upr (sqr x y) * upr (sqr x y)) := Int.mul_lt_mul_of_pos_right h hu2
      rw [Int.mul_comm (l * l)] at e4
      omega
    · exact h
theorem scl_id {x y l c : Int} (h : sqr x y ≤ l * l) : scl (sqr x y) c l = c := by unfold scl; rw [if_pos h]

/-! products of words -/
theorem words {x y : Int} (hx0 : 0 ≤ x) (hx1 : x < 18446744073709551616) (hy0 : 0 ≤ y) (hy1 : y < 18446744073709551616) :
    ∃ a b c d ac ad bc bd : Int, x / 4294967296 = a ∧ x % 4294967296 = b ∧ y / 4294967296 = c ∧ y % 4294967296 = d ∧ a * c = ac ∧ a * d = ad ∧ b * c = bc ∧ b * d = bd ∧
      0 ≤ ac ∧ ac ≤ 18446744065119617025 ∧ 0 ≤ ad ∧ ad ≤ 18446744065119617025 ∧ 0 ≤ bc ∧ bc ≤ 18446744065119617025 ∧ 0 ≤ bd ∧ bd ≤ 18446744065119617025 ∧
      x * y = ac * 18446744073709551616 + (ad + bc) * 4294967296 + bd := by
  have a0 : 0 ≤ x / 4294967296 ∧ x / 4294967296 ≤ 4294967295 := by omega
  have b0 : 0 ≤ x % 4294967296 ∧ x % 4294967296 ≤ 4294967295 := by omega
  have c0 : 0 ≤ y / 4294967296 ∧ y / 4294967296 ≤ 4294967295 := by omega
  have d0 : 0 ≤ y % 4294967296 ∧ y % 4294967296 ≤ 4294967295 := by omega
  have m : ∀ p q : Int, 0 ≤ p ∧ p ≤ 4294967295 → 0 ≤ q ∧ q ≤ 4294967295 → 0 ≤ p * q ∧ p * q ≤ 18446744065119617025 := fun p q hp hq =>
    ⟨Int.mul_nonneg hp.1 hq.1, by have := Int.mul_le_mul hp.2 hq.2 hq.1 (by omega); omega⟩
  have e : x * y = x / 4294967296 * (y / 4294967296) * 18446744073709551616 + (x / 4294967296 * (y % 4294967296) + x % 4294967296 * (y / 4294967296)) * 4294967296 + x % 4294967296 * (y % 4294967296) := by
    have ex : x = x / 4294967296 * 4294967296 + x % 4294967296 := by omega
    have ey : y = y / 4294967296 * 4294967296 + y % 4294967296 := by omega
    generalize x / 4294967296 = a at *
    generalize x % 4294967296 = b at *
    generalize y / 4294967296 = c at *
    generalize y % 4294967296 = d at *
    rw [ex, ey, Int.add_mul, Int.mul_add, Int.mul_add, Int.mul_right_comm a 4294967296 (c * 4294967296), ← Int.mul_assoc a c, Int.mul_assoc (a * c), Int.mul_right_comm a 4294967296 d, ← Int.mul_assoc b c]
    omega
  exact ⟨_, _, _, _, _, _, _, _, rfl, rfl, rfl, rfl, rfl, rfl, rfl, rfl, (m _ _ a0 c0).1, (m _ _ a0 c0).2, (m _ _ a0 d0).1, (m _ _ a0 d0).2, (m _ _ b0 c0).1, (m _ _ b0 c0).2, (m _ _ b0 d0).1, (m _ _ b0 d0).2, e⟩

end Go.Proofs.Ytfcianhmfpenhaa
