/- The plain law of TrackerReaches: along an axis. -/
import Derived.Test.YtdcclpdnnhaeoaaWr
namespace Go.Proofs.Ytdcclpdnnhaeoaa
set_option linter.unusedVariables false
set_option linter.unusedSimpArgs false
/-- a direction along an axis -/
def Axis (u v : Int) : Prop := (u = 1 ∧ v = 0) ∨ (u = -1 ∧ v = 0) ∨ (u = 0 ∧ v = 1) ∨ (u = 0 ∧ v = -1)
theorem al_axis {s : Int} (h1 : 0 ≤ s) (h2 : s ≤ 255) : ∃ u v, Axis u v ∧ (∀ n, alX s n = u * n) ∧ (∀ n, alY s n = v * n) := by
  unfold alX alY
  rcases tm4 h1 h2 with h | h | h | h
  · exact ⟨1, 0, Or.inl ⟨rfl, rfl⟩, fun n => by simp [h], fun n => by simp [h]⟩
  · exact ⟨-1, 0, Or.inr (Or.inl ⟨rfl, rfl⟩), fun n => by simp [h], fun n => by simp [h]⟩
  · exact ⟨0, 1, Or.inr (Or.inr (Or.inl ⟨rfl, rfl⟩)), fun n => by simp [h], fun n => by simp [h]⟩
  · exact ⟨0, -1, Or.inr (Or.inr (Or.inr ⟨rfl, rfl⟩)), fun n => by simp [h], fun n => by simp [h]⟩
theorem ax_sqr {u v d : Int} (h : Axis u v) : sqr (u * d) (v * d) = d * d := by
  unfold sqr
  rcases h with ⟨rfl, rfl⟩ | ⟨rfl, rfl⟩ | ⟨rfl, rfl⟩ | ⟨rfl, rfl⟩ <;> simp [Int.neg_mul_neg]
theorem ax_dist {u v p q : Int} (h : Axis u v) (h1 : -4294967295 ≤ p - q) (h2 : p - q ≤ 4294967295) : isq (sqr (u * p - u * q) (v * p - v * q)) = max (p - q) (q - p) := by
  rw [← Int.mul_sub, ← Int.mul_sub, ax_sqr h]
  rcases Int.lt_or_le p q with h3 | h3
  · rw [show (p - q) * (p - q) = (q - p) * (q - p) from by rw [← Int.neg_mul_neg]; simp [Int.neg_sub], isq_sq (by omega) (by omega)]
    omega
  · rw [isq_sq (by omega) (by omega)]
    omega
/-- between -l and l -/
def cl (d l : Int) : Int := if d < -l then -l else if l < d then l else d
theorem scl_pos {c d l : Int} (hd : 0 ≤ d) (hd2 : d ≤ 4294967295) (hl : 0 ≤ l) (e : Int) (he : e = 1 ∨ e = 0 ∨ e = -1) (hc : c = e * d) : scl (d * d) c l = e * min d l := by
  unfold scl
  split
  · rename_i h
    have : d ≤ l := le_of_sq hl h
    rw [Int.min_eq_left this, hc]
  · rename_i h
    have h3 : l < d := by
      rcases Int.lt_or_le l d with h' | h'
      · exact h'
      · exact absurd (sq_le hd h') h
    have h4 : upr (d * d) = d := by
      unfold upr
      rw [isq_sq hd hd2, if_neg (by omega)]
    rw [h4, Int.min_eq_right (by omega), hc]
    rcases he with rfl | rfl | rfl
    · rw [Int.one_mul, Int.one_mul, Int.mul_comm, Int.mul_tdiv_cancel _ (by omega)]
    · simp
    · rw [show (-1) * d * l = -(l * d) from by rw [Int.neg_mul, Int.one_mul, Int.neg_mul, Int.mul_comm], Int.neg_tdiv, Int.mul_tdiv_cancel _ (by omega)]
      omega
theorem ax_scl {u v d l : Int} (h : Axis u v) (h1 : -4294967295 ≤ d) (h2 : d ≤ 4294967295) (hl : 0 ≤ l) : scl (sqr (u * d) (v * d)) (u * d) l = u * cl d l ∧ scl (sqr (u * d) (v * d)) (v * d) l = v * cl d l := by
  rw [ax_sqr h]
  have hu : u = 1 ∨ u = 0 ∨ u = -1 := by rcases h with ⟨rfl, rfl⟩ | ⟨rfl, rfl⟩ | ⟨rfl, rfl⟩ | ⟨rfl, rfl⟩ <;> simp
  have hv : v = 1 ∨ v = 0 ∨ v = -1 := by rcases h with ⟨rfl, rfl⟩ | ⟨rfl, rfl⟩ | ⟨rfl, rfl⟩ | ⟨rfl, rfl⟩ <;> simp
  rcases Int.lt_or_le d 0 with hd | hd
  · have e : cl d l = -(min (-d) l) := by unfold cl; (repeat' split) <;> omega
    rw [show d * d = (-d) * (-d) from (Int.neg_mul_neg d d).symm, e]
    have key : ∀ z : Int, (z = 1 ∨ z = 0 ∨ z = -1) → scl (-d * -d) (z * d) l = z * -(min (-d) l) := fun z hz => by
      rw [scl_pos (d := -d) (by omega) (by omega) hl (-z) (by omega) (by rw [Int.neg_mul_neg])]
      rw [Int.neg_mul, Int.mul_neg]
    exact ⟨key u hu, key v hv⟩
  · have e : cl d l = min d l := by unfold cl; (repeat' split) <;> omega
    rw [e]
    exact ⟨scl_pos hd h2 hl u hu rfl, scl_pos hd h2 hl v hv rfl⟩
/-- the speed after a step -/
def nsp (c wv A : Int) : Int := c + cl (wv - c) A
theorem nsp_range {c wv A S : Int} (h1 : 0 ≤ c) (h2 : c ≤ S) (h3 : 0 ≤ wv) (h4 : wv ≤ S) (hA : 0 ≤ A) : 0 ≤ nsp c wv A ∧ nsp c wv A ≤ S := by
  unfold nsp cl
  (repeat' split) <;> omega
theorem ax_abs {u v : Int} (h : Axis u v) {d : Int} (h1 : 0 ≤ d) : -d ≤ u * d ∧ u * d ≤ d ∧ -d ≤ v * d ∧ v * d ≤ d := by
  rcases h with ⟨rfl, rfl⟩ | ⟨rfl, rfl⟩ | ⟨rfl, rfl⟩ | ⟨rfl, rfl⟩ <;> simp <;> omega
theorem ax_step {u v c wv S A : Int} (h : Axis u v) (h1 : 0 ≤ c) (h2 : c ≤ S) (h3 : 0 ≤ wv) (h4 : wv ≤ S) (hS : S ≤ 4096) (hA : 0 ≤ A) :
    stpX (u * c) (v * c) (u * wv) (v * wv) S A = u * nsp c wv A ∧ stpY (u * c) (v * c) (u * wv) (v * wv) S A = v * nsp c wv A := by
  obtain ⟨a1, a2, a3, a4⟩ := ax_abs h h3
  have ew : wX (u * wv) (v * wv) S = u * wv ∧ wY (u * wv) (v * wv) S = v * wv := by
    unfold wX wY
    rw [clp_id (by omega) (by omega), clp_id (by omega) (by omega)]
    obtain ⟨e1, e2⟩ := ax_scl h (d := wv) (l := S) (by omega) (by omega) (by omega)
    have : cl wv S = wv := by unfold cl; (repeat' split) <;> omega
    rw [e1, e2, this]
    exact ⟨rfl, rfl⟩
  have ed : dX (u * c) (v * c) (u * wv) (v * wv) S A = u * cl (wv - c) A ∧ dY (u * c) (v * c) (u * wv) (v * wv) S A = v * cl (wv - c) A := by
    unfold dX dY
    rw [ew.1, ew.2, ← Int.mul_sub, ← Int.mul_sub]
    exact ax_scl h (by omega) (by omega) hA
  have hn := nsp_range h1 h2 h3 h4 hA
  unfold stpX stpY
  rw [ed.1, ed.2, hlv_stop (Or.inl (by
    rw [← Int.mul_add, ← Int.mul_add, ax_sqr h]
    exact sq_le hn.1 hn.2))]
  dsimp only
  unfold nsp
  rw [Int.mul_add, Int.mul_add]
  exact ⟨rfl, rfl⟩
/-- the way of the waypoints -/
def gapQ (G : Nat → Int) : Nat → Int
  | 0 => 0
  | i + 1 => gapQ G i + G i % 101
theorem gapQ_step (G : Nat → Int) (i : Nat) : gapQ G i ≤ gapQ G (i + 1) ∧ gapQ G (i + 1) ≤ gapQ G i + 100 := by
  have a := Int.emod_nonneg (G i) (show (101 : Int) ≠ 0 by omega)
  have b := Int.emod_lt_of_pos (G i) (show (0 : Int) < 101 by omega)
  show gapQ G i ≤ gapQ G i + G i % 101 ∧ gapQ G i + G i % 101 ≤ gapQ G i + 100
  omega
theorem gapQ_range (G : Nat → Int) : ∀ i : Nat, 0 ≤ gapQ G i ∧ gapQ G i ≤ 100 * i
  | 0 => ⟨Int.le_refl _, Int.le_refl _⟩
  | i + 1 => by
    have a := gapQ_step G i
    have b := gapQ_range G i
    omega
theorem gapQ_mono (G : Nat → Int) {i : Nat} : ∀ {j : Nat}, i ≤ j → gapQ G i ≤ gapQ G j
  | 0, h => by
    obtain rfl : i = 0 := by omega
    exact Int.le_refl _
  | j + 1, h => by
    by_cases e : i = j + 1
    · subst e; exact Int.le_refl _
    · have a := gapQ_mono G (i := i) (j := j) (by omega)
      have b := gapQ_step G j
      omega
/-- what holds at each tick -/
structure Go1 (W S B : Int) (Q : Nat → Int) (len pr : Nat) (p c : Int) : Prop where
  p0 : 0 ≤ p
  p1 : p ≤ W
  c0 : 0 ≤ c
  c1 : c ≤ S
  ok : way (max (c - B) 0) B ≤ W - p
  pl : pr < len
  nx : ∀ i, pr < i → i < len → p ≤ Q i
/-- the progress, and the waypoint that is aimed at -/
theorem go_adv {u v W S : Int} {Q : Nat → Int} {len : Nat} (hax : Axis u v) (hW : W ≤ 100000) (hQ : ∀ i, i < len → 0 ≤ Q i ∧ Q i ≤ W) {p : Int} (h0 : 0 ≤ p) (h1 : p ≤ W) :
    ∀ (n pr : Nat), pr < len → len ≤ n + pr → (∀ i, pr < i → i < len → p ≤ Q i) → ∀ (hm : ∀ i j, i ≤ j → j < len → Q i ≤ Q j),
      let J := adv (u * p) (v * p) (fun i => u * Q i) (fun i => v * Q i) len S n pr
      J < len ∧ ∀ i, J < i → i < len → p + S < Q i
  | 0, pr, hp, hn, hq, hm => by omega
  | n + 1, pr, hp, hn, hq, hm => by
    show (let J := (if pr + 1 < len ∧ dst (u * p) (v * p) (fun i => u * Q i) (fun i => v * Q i) (pr + 1) ≤ S then adv (u * p) (v * p) (fun i => u * Q i) (fun i => v * Q i) len S n (pr + 1) else pr); J < len ∧ ∀ i, J < i → i < len → p + S < Q i)
    by_cases hc : pr + 1 < len ∧ dst (u * p) (v * p) (fun i => u * Q i) (fun i => v * Q i) (pr + 1) ≤ S
    · rw [if_pos hc]
      exact go_adv hax hW hQ h0 h1 n (pr + 1) hc.1 (by omega) (fun i a b => hq i (by omega) b) hm
    · rw [if_neg hc]
      refine ⟨hp, fun i a b => ?_⟩
      have h2 := hq (pr + 1) (by omega) (by omega)
      have h3 := hm (pr + 1) i (by omega) b
      have h4 := hQ (pr + 1) (by omega)
      have h5 : ¬ (dst (u * p) (v * p) (fun i => u * Q i) (fun i => v * Q i) (pr + 1) ≤ S) := fun e => hc ⟨by omega, e⟩
      unfold dst at h5
      rw [ax_dist hax (by omega) (by omega)] at h5
      omega
theorem way_ge {v b : Int} (hv : 0 ≤ v) (hb : 1 ≤ b) : v ≤ way v b := by
  by_cases h : 1 ≤ v
  · rw [way_step h hb]
    have := (way_bounds (v := max (v - b) 0) (by omega) hb).1
    omega
  · rw [show v = 0 from by omega, way_zero hb]
    exact Int.le_refl _
theorem spd_pos {w b : Int} (hw : 1 ≤ w) (hb : 1 ≤ b) : 1 ≤ spd w b := by
  obtain ⟨s1, s2, s3, s4⟩ := spd_spec (w := w) (b := b) (by omega) hb
  rcases Int.lt_or_le (spd w b) 1 with h | h
  · have h0 : spd w b = 0 := by omega
    have := s4 (by omega)
    rw [h0] at this
    have e : way (0 + 1) b = 1 := by
      rw [way_step (by omega) hb, show max ((0 : Int) + 1 - b) 0 = 0 from by omega, way_zero hb]
      rfl
    omega
  · exact h
/-- one tick -/
theorem go_tick {W S A B : Int} {Q : Nat → Int} {len pr : Nat} {p c : Int} (h : Go1 W S B Q len pr p c) (hp : p < W) (hb : 1 ≤ B) (hBA : B ≤ A) (hS : 1 ≤ S) {J : Nat} (hJ : J < len) (hJq : ∀ i, J < i → i < len → p + S < Q i) :
    Go1 W S B Q len J (p + nsp c (min S (spd (W - p) B)) A) (nsp c (min S (spd (W - p) B)) A) ∧ 1 ≤ nsp c (min S (spd (W - p) B)) A := by
  obtain ⟨s1, s2, s3, s4⟩ := spd_spec (w := W - p) (b := B) (by omega) hb
  have s5 := spd_pos (w := W - p) (b := B) (by omega) hb
  generalize hl : min S (spd (W - p) B) = l at *
  have l1 : 1 ≤ l := by omega
  have l2 : l ≤ S := by omega
  have l3 : way l B ≤ W - p := by
    have := way_mono_le hb l (by omega) (spd (W - p) B) (by omega)
    omega
  have n1 : 1 ≤ nsp c l A := by
    have := h.c0
    unfold nsp cl
    (repeat' split) <;> omega
  have n2 : nsp c l A ≤ l ∨ nsp c l A ≤ max (c - B) 0 := by
    unfold nsp cl
    (repeat' split) <;> omega
  have n3 : nsp c l A ≤ S := (nsp_range h.c0 h.c1 (by omega) l2 (by omega)).2
  have n4 : way (nsp c l A) B ≤ W - p := by
    rcases n2 with n2 | n2
    · have := way_mono_le hb _ (by omega) _ n2; omega
    · have := way_mono_le hb _ (by omega) _ n2
      have := h.ok
      omega
  generalize nsp c l A = c' at *
  have n5 := way_ge (v := c') (by omega) hb
  have n6 := way_step n1 hb
  have hp0 := h.p0
  exact ⟨⟨by omega, by omega, by omega, n3, by omega, hJ, fun i a b => by have := hJq i a b; omega⟩, n1⟩
/-- the velocity that is wanted, before the last waypoint -/
theorem go_want {u v W S B : Int} {Q : Nat → Int} {len : Nat} {p : Int} (hax : Axis u v) (hW : W ≤ 100000) (hlen : 0 < len) (hlast : Q (len - 1) = W) (hQ : ∀ i, i < len → 0 ≤ Q i ∧ Q i ≤ W) (h0 : 0 ≤ p) (hp : p < W) (hb : 1 ≤ B) (hS : 1 ≤ S) (hS2 : S ≤ 4096) {J ka : Nat} (hJ : J < len) (hJq : ∀ i, J < i → i < len → p + S < Q i) (hka : (ka : Int) = min ((J : Int) + 1) ((len : Int) - 1)) :
    scl (sqr (u * Q ka - u * p) (v * Q ka - v * p)) (u * Q ka - u * p) (max (min S (spd (W - p) B)) 0) = u * min S (spd (W - p) B) ∧
    scl (sqr (u * Q ka - u * p) (v * Q ka - v * p)) (v * Q ka - v * p) (max (min S (spd (W - p) B)) 0) = v * min S (spd (W - p) B) := by
  obtain ⟨s1, s2, s3, s4⟩ := spd_spec (w := W - p) (b := B) (by omega) hb
  have s5 := spd_pos (w := W - p) (b := B) (by omega) hb
  have s6 := way_ge (v := spd (W - p) B) (by omega) hb
  have hk : ka < len := by omega
  have hq := hQ ka hk
  have hd : min S (spd (W - p) B) ≤ Q ka - p := by
    rcases Nat.lt_or_ge (J + 1) len with h | h
    · have := hJq ka (by omega) hk
      omega
    · have : ka = len - 1 := by omega
      rw [this, hlast]
      omega
  rw [← Int.mul_sub, ← Int.mul_sub, Int.max_eq_left (by omega)]
  obtain ⟨e1, e2⟩ := ax_scl hax (d := Q ka - p) (l := min S (spd (W - p) B)) (by omega) (by omega) (by omega)
  have e3 : cl (Q ka - p) (min S (spd (W - p) B)) = min S (spd (W - p) B) := by unfold cl; (repeat' split) <;> omega
  rw [e1, e2, e3]
  exact ⟨rfl, rfl⟩
end Go.Proofs.Ytdcclpdnnhaeoaa
