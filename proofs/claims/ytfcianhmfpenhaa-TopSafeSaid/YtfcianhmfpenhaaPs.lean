/- Plain law: what keeps a robot apart from persons. -/
import Derived.Test.YtfcianhmfpenhaaPl
import Derived.Test.YtfcianhmfpenhaaBrk
set_option linter.unusedVariables false
namespace Go.Proofs.Ytfcianhmfpenhaa
/-- a distance of at least n, less a step of at most a -/
theorem tri1 {x y u v n a : Int} (ha : 0 ≤ a) (hn : 0 ≤ n) (h1 : (n + a) * (n + a) ≤ sqr x y) (h2 : sqr u v ≤ a * a) : n * n ≤ sqr (x - u) (y - v) := by
  rcases Int.lt_or_le (sqr (x - u) (y - v)) (n * n) with h | h
  · exfalso
    have hs := sqr_sub (x - u) (y - v) (-u) (-v)
    rw [show x - u - -u = x from by omega, show y - v - -v = y from by omega] at hs
    have hc := cauchy (x - u) (y - v) (-u) (-v)
    have hd := sq_self_nonneg ((x - u) * -v - (y - v) * -u)
    have he : sqr (-u) (-v) = sqr u v := by unfold sqr; grind
    rw [he] at hs hc
    have hC := sqr_nonneg (x - u) (y - v)
    have hE := sqr_nonneg u v
    generalize sqr (x - u) (y - v) = C at *
    generalize sqr u v = E at *
    generalize sqr x y = A at *
    generalize (x - u) * -u + (y - v) * -v = D at *
    have e1 : C * E ≤ (n * a) * (n * a) := by
      have g1 : C * E ≤ (n * n) * (a * a) := Int.mul_le_mul (by omega) h2 hE (by have := sq_self_nonneg n; omega)
      have g2 : (n * n) * (a * a) = (n * a) * (n * a) := by grind
      omega
    have p : 0 ≤ n * a := Int.mul_nonneg hn ha
    have e2 : -D ≤ n * a := le_of_sq p (by
      have : -D * -D = D * D := by grind
      omega)
    have e3 : (n + a) * (n + a) = n * n + a * a + 2 * (n * a) := by grind
    omega
  · exact h
/-- what a speed wants behind the tick -/
def kk (S B H M c : Int) : Int := Bk.need (max (c - B) 0) B H M
theorem need_nonneg {c B H M : Int} (hc : 0 ≤ c) (hB : 1 ≤ B) (hH : 0 ≤ H) : M ≤ Bk.need c B H M := by
  have t := Bk.tck_bounds hc hB
  have q := Bk.way_bounds hc hB
  have p : 0 ≤ H * (Bk.tck c B + 1) := Int.mul_nonneg hH (by omega)
  unfold Bk.need; omega
/-- robots that are far enough from all persons -/
def Inv (S B H M : Int) (len : Nat) (px py vx vy : Int) (X Y : Nat → Int) : Prop :=
  (vx = 0 ∧ vy = 0) ∨ ∃ c, 1 ≤ c ∧ c ≤ S ∧ sqr vx vy ≤ c * c ∧ ∀ i, i < len → kk S B H M c * kk S B H M c ≤ sqr (px - X i) (py - Y i)
/-- within a tick: k of the persons have moved -/
def Hlf (S B H M : Int) (len k : Nat) (c px py rx ry : Int) (X Y : Nat → Int) : Prop :=
  (rx = 0 ∧ ry = 0) ∨ (1 ≤ c ∧ c ≤ S ∧ sqr rx ry ≤ c * c ∧ (∀ i, i < k → i < len → kk S B H M c * kk S B H M c ≤ sqr (px + rx - X i) (py + ry - Y i)) ∧ ∀ i, k ≤ i → i < len → Bk.need c B H M * Bk.need c B H M ≤ sqr (px - X i) (py - Y i))
theorem hlf_brk {S B H M : Int} {len : Nat} {px py vx vy : Int} {X Y : Nat → Int} (hS : S ≤ 4096) (hB : 1 ≤ B) (h : Inv S B H M len px py vx vy X Y) : ∃ c, Hlf S B H M len 0 c px py (brkX vx vy B) (brkY vx vy B) X Y := by
  rcases h with ⟨rfl, rfl⟩ | ⟨c, c1, c2, hv, hd⟩
  · have h1 := brk_bound (vx := 0) (vy := 0) (B := B) (L := 0) (by omega) (by omega) (by omega) (by decide)
    exact ⟨0, Or.inl (sq_le_zero (L := max 0 (0 - B)) (by omega) h1)⟩
  · have h1 := brk_bound (vx := vx) (vy := vy) (B := B) (L := c) (by omega) (by omega) (by omega) hv
    rcases Int.lt_or_le B c with hc | hc
    · refine ⟨c - B, Or.inr ⟨by omega, by omega, ?_, fun i h => absurd h (by omega), fun i _ hi => ?_⟩⟩
      · rw [show max 0 (c - B) = c - B from by omega] at h1
        exact h1
      · have := hd i hi
        unfold kk at this
        rw [show max (c - B) 0 = c - B from by omega] at this
        exact this
    · exact ⟨0, Or.inl (sq_le_zero (L := max 0 (c - B)) (by omega) h1)⟩
theorem hlf_ceil {S A B H M g : Int} {len : Nat} {px py rx ry : Int} {X Y : Nat → Int} (hB : 1 ≤ B) (hH : 0 ≤ H) (hM : 0 ≤ M)
    (hr : sqr rx ry ≤ max 0 (Bk.allowF g S A B H M) * max 0 (Bk.allowF g S A B H M)) (hg : ∀ i, i < len → g ≤ max 0 (isq (sqr (px - X i) (py - Y i)) - 1)) (hb : ∀ i, i < len → sqr (px - X i) (py - Y i) < 18446744073709551616) : ∃ c, Hlf S B H M len 0 c px py rx ry X Y := by
  rcases Int.lt_or_le 0 (Bk.allowF g S A B H M) with hc | hc
  · have h0 : Bk.safeF 0 g S A B H M = true := by
      cases e : Bk.safeF 0 g S A B H M with
      | true => rfl
      | false => rw [Bk.allow_none e] at hc; omega
    obtain ⟨a1, a2, a3, _⟩ := Bk.allow_spec h0
    have a4 := (Bk.safe_iff.1 a3).2.2
    rw [show max 0 (Bk.allowF g S A B H M) = Bk.allowF g S A B H M from by omega] at hr
    generalize Bk.allowF g S A B H M = c at *
    have hst := Bk.need_step (v := c) (b := B) (h := H) (m := M) (by omega) hB
    have hn := need_nonneg (c := max (c - B) 0) (M := M) (by omega) hB hH
    refine ⟨c, Or.inr ⟨by omega, a2, hr, fun i h => absurd h (by omega), fun i _ hi => ?_⟩⟩
    have g1 := hg i hi
    obtain ⟨i1, i2, _⟩ := isq_spec (sqr_nonneg (px - X i) (py - Y i)) (hb i hi)
    have : Bk.need c B H M * Bk.need c B H M ≤ isq (sqr (px - X i) (py - Y i)) * isq (sqr (px - X i) (py - Y i)) := sq_le (by omega) (by omega)
    omega
  · rw [show max 0 (Bk.allowF g S A B H M) = 0 from by omega] at hr
    exact ⟨0, Or.inl (sq_le_zero (L := 0) rfl hr)⟩
theorem hlf_none {S B H M : Int} {px py rx ry : Int} {X Y : Nat → Int} (hS : 1 ≤ S) (hr : sqr rx ry ≤ S * S) : ∃ c, Hlf S B H M 0 0 c px py rx ry X Y :=
  ⟨S, Or.inr ⟨hS, by omega, hr, fun i h => absurd h (by omega), fun i _ h => absurd h (by omega)⟩⟩
/-- a person moves -/
def updN (X : Nat → Int) (k : Nat) (v : Int) : Nat → Int := fun i => if i = k then v else X i
theorem updN_same (X : Nat → Int) (k : Nat) (v : Int) : updN X k v k = v := if_pos rfl
theorem updN_ne {X : Nat → Int} {k i : Nat} {v : Int} (h : i ≠ k) : updN X k v i = X i := if_neg h
theorem updN_id (X : Nat → Int) (k : Nat) : updN X k (X k) = X := by
  funext i
  unfold updN
  split
  · rename_i h; rw [h]
  · rfl
theorem hlf_step {S B H M : Int} {len k : Nat} {c px py rx ry dx dy : Int} {X Y : Nat → Int} (hB : 1 ≤ B) (hH : 0 ≤ H) (hM : 0 ≤ M) (hk : k < len) (hd : sqr dx dy ≤ H * H) (h : Hlf S B H M len k c px py rx ry X Y) :
    Hlf S B H M len (k + 1) c px py rx ry (updN X k (X k + dx)) (updN Y k (Y k + dy)) := by
  rcases h with h | ⟨c1, c2, hr, h1, h2⟩
  · exact Or.inl h
  · refine Or.inr ⟨c1, c2, hr, fun i hi hl => ?_, fun i hi hl => ?_⟩
    · by_cases e : i = k
      · subst e
        rw [updN_same, updN_same]
        have hst := Bk.need_step (v := c) (b := B) (h := H) (m := M) c1 hB
        have hn := need_nonneg (c := max (c - B) 0) (M := M) (by omega) hB hH
        have b := h2 i (Nat.le_refl _) hl
        have t1 := tri1 (x := px - X i) (y := py - Y i) (u := -rx) (v := -ry) (n := H + kk S B H M c) (a := c) (by omega) (by unfold kk; omega) (by unfold kk; rw [show H + Bk.need (max (c - B) 0) B H M + c = Bk.need c B H M from by omega]; exact b) (by have : sqr (-rx) (-ry) = sqr rx ry := (by unfold sqr; grind); omega)
        have t2 := tri1 (x := px - X i - -rx) (y := py - Y i - -ry) (u := dx) (v := dy) (n := kk S B H M c) (a := H) hH (by unfold kk; omega) (by rw [Int.add_comm (kk S B H M c) H]; exact t1) hd
        rw [show px + rx - (X i + dx) = px - X i - -rx - dx from by omega, show py + ry - (Y i + dy) = py - Y i - -ry - dy from by omega]
        exact t2
      · rw [updN_ne e, updN_ne e]
        exact h1 i (by omega) hl
    · rw [updN_ne (by omega), updN_ne (by omega)]
      exact h2 i (by omega) hl
theorem hlf_safe {S B H M : Int} {len k : Nat} {c px py rx ry : Int} {X Y : Nat → Int} (hB : 1 ≤ B) (hH : 0 ≤ H) (hM : 0 ≤ M) (hk : k < len) (hr : ¬ (rx = 0 ∧ ry = 0)) (h : Hlf S B H M len (k + 1) c px py rx ry X Y) : M * M ≤ sqr (px + rx - X k) (py + ry - Y k) := by
  rcases h with h | ⟨c1, c2, _, h1, _⟩
  · exact absurd h hr
  · have hn := need_nonneg (c := max (c - B) 0) (M := M) (by omega) hB hH
    have := h1 k (by omega) hk
    exact Int.le_trans (sq_le hM hn) this
theorem hlf_inv {S B H M : Int} {len : Nat} {c px py rx ry : Int} {X Y : Nat → Int} (h : Hlf S B H M len len c px py rx ry X Y) : Inv S B H M len (px + rx) (py + ry) rx ry X Y := by
  rcases h with h | ⟨c1, c2, hr, h1, _⟩
  · exact Or.inl h
  · exact Or.inr ⟨c, c1, c2, hr, fun i hi => h1 i hi hi⟩
end Go.Proofs.Ytfcianhmfpenhaa
