/- What the functions of package braking compute, in plain Lean: braking distances, ticks, greatest speeds. No program in sight. -/
namespace Go.Proofs.Ytfcianhmfpenhaa.Bk

/-- low ≤ n ≤ high -/
def inB (n low high : Int) : Bool := decide (low ≤ n) && decide (n ≤ high)
theorem inB_iff {n low high : Int} : inB n low high = true ↔ low ≤ n ∧ n ≤ high := by simp [inB]
theorem inB_true {n low high : Int} (h1 : low ≤ n) (h2 : n ≤ high) : inB n low high = true := inB_iff.2 ⟨h1, h2⟩
theorem inB_false {n low high : Int} (h : ¬ (low ≤ n ∧ n ≤ high)) : inB n low high = false := by
  cases h' : inB n low high
  · rfl
  · exact absurd (inB_iff.1 h') h
theorem inB_false_iff {n low high : Int} : inB n low high = false ↔ ¬ (low ≤ n ∧ n ≤ high) :=
  ⟨fun h h' => (by rw [inB_true h'.1 h'.2] at h; cases h), inB_false⟩

/-- valid limits -/
def vld (s a b h m : Int) : Bool := inB s 1 4096 && inB a 1 s && inB b 1 s && inB h 0 4096 && inB m 0 1048576
theorem vld_iff {s a b h m : Int} : vld s a b h m = true ↔ (1 ≤ s ∧ s ≤ 4096) ∧ (1 ≤ a ∧ a ≤ s) ∧ (1 ≤ b ∧ b ≤ s) ∧ (0 ≤ h ∧ h ≤ 4096) ∧ (0 ≤ m ∧ m ≤ 1048576) := by
  simp only [vld, Bool.and_eq_true, inB_iff]
  constructor
  · rintro ⟨⟨⟨⟨h1, h2⟩, h3⟩, h4⟩, h5⟩; exact ⟨h1, h2, h3, h4, h5⟩
  · rintro ⟨h1, h2, h3, h4, h5⟩; exact ⟨⟨⟨⟨h1, h2⟩, h3⟩, h4⟩, h5⟩

/-- v + (v - b) + .. : n terms -/
def sumD (v b : Int) : Nat → Int
  | 0 => 0
  | n + 1 => sumD v b n + (v - n * b)
/-- the number of ticks, for 0 ≤ v and 1 ≤ b -/
def tck (v b : Int) : Int := (v + b - 1) / b
/-- the way, for 0 ≤ v and 1 ≤ b -/
def way (v b : Int) : Int := sumD v b (tck v b).toNat
/-- braking.Ticks, for all integers -/
def tckF (v b : Int) : Int := if inB v 0 4096 && inB b 1 4096 then tck v b else 0
/-- braking.Distance, for all integers -/
def wayF (v b : Int) : Int := if inB v 0 4096 && inB b 1 4096 then way v b else 0

theorem tck_bounds {v b : Int} (hv : 0 ≤ v) (hb : 1 ≤ b) : 0 ≤ tck v b ∧ tck v b ≤ v := by
  unfold tck
  constructor
  · exact Int.ediv_nonneg (by omega) (by omega)
  · have : (v + b - 1) / b < v + 1 := Int.ediv_lt_of_lt_mul (by omega) (by have := Int.mul_nonneg hv (by omega : 0 ≤ b - 1); rw [Int.add_mul]; rw [Int.mul_sub] at this; omega)
    omega

theorem tck_iff {v b k : Int} (hb : 1 ≤ b) : k < tck v b ↔ 0 < v - k * b := by
  unfold tck
  rw [Int.lt_iff_add_one_le, Int.le_ediv_iff_mul_le (by omega), Int.add_mul]
  omega

theorem tck_zero {b : Int} (hb : 1 ≤ b) : tck 0 b = 0 := by
  have := tck_bounds (Int.le_refl 0) hb; omega

theorem tck_step {v b : Int} (hv : 1 ≤ v) (hb : 1 ≤ b) : tck v b = 1 + tck (max (v - b) 0) b := by
  by_cases h : b ≤ v
  · rw [Int.max_eq_left (by omega)]
    unfold tck
    have : v + b - 1 = (v - b + b - 1) + 1 * b := by omega
    rw [this, Int.add_mul_ediv_right _ _ (by omega)]; omega
  · rw [Int.max_eq_right (by omega), tck_zero hb]
    have h1 := tck_iff (v := v) (b := b) (k := 0) hb
    have h2 := tck_iff (v := v) (b := b) (k := 1) hb
    omega

theorem tck_mono {v v' b : Int} (h : v ≤ v') (hb : 1 ≤ b) : tck v b ≤ tck v' b := by
  unfold tck; exact Int.ediv_le_ediv (by omega) (by omega)

theorem tck_anti {v b b' : Int} (hv : 0 ≤ v) (hb : 1 ≤ b) (h : b ≤ b') : tck v b' ≤ tck v b := by
  by_cases hlt : tck v b < tck v b'
  · have h1 := (tck_iff (v := v) (b := b') (k := tck v b) (by omega)).1 hlt
    have h2 := tck_iff (v := v) (b := b) (k := tck v b) hb
    have h3 : tck v b * b ≤ tck v b * b' := Int.mul_le_mul_of_nonneg_left h (tck_bounds hv hb).1
    omega
  · omega

theorem sumD_shift (v b : Int) (n : Nat) : sumD v b (n + 1) = v + sumD (v - b) b n := by
  induction n with
  | zero => simp [sumD]
  | succ n ih =>
    rw [sumD, ih]
    simp only [sumD]
    have : ((n + 1 : Nat) : Int) * b = n * b + b := by push_cast; rw [Int.add_mul]; omega
    omega

theorem sumD_nonneg (v b : Int) (hb : 1 ≤ b) : ∀ n : Nat, (n : Int) ≤ tck v b → 0 ≤ sumD v b n
  | 0, _ => by simp [sumD]
  | n + 1, h => by
    have ih := sumD_nonneg v b hb n (by omega)
    have := (tck_iff (v := v) (b := b) (k := n) hb).1 (by omega)
    simp only [sumD]; omega

theorem sumD_le (v b : Int) (hv : 0 ≤ v) (hb : 1 ≤ b) : ∀ n : Nat, sumD v b n ≤ v * n
  | 0 => by simp [sumD]
  | n + 1 => by
    have ih := sumD_le v b hv hb n
    have : 0 ≤ (n : Int) * b := Int.mul_nonneg (by omega) (by omega)
    simp only [sumD]
    have e : v * ((n + 1 : Nat) : Int) = v * n + v := by push_cast; rw [Int.mul_add]; omega
    omega

theorem way_bounds {v b : Int} (hv : 0 ≤ v) (hb : 1 ≤ b) : 0 ≤ way v b ∧ way v b ≤ v * v := by
  have ht := tck_bounds hv hb
  constructor
  · exact sumD_nonneg v b hb _ (by omega)
  · refine Int.le_trans (sumD_le v b hv hb _) (Int.mul_le_mul_of_nonneg_left (by omega) hv)

theorem way_zero {b : Int} (hb : 1 ≤ b) : way 0 b = 0 := by
  unfold way; rw [tck_zero hb]; rfl

theorem way_step {v b : Int} (hv : 1 ≤ v) (hb : 1 ≤ b) : way v b = v + way (max (v - b) 0) b := by
  have ht := tck_bounds (v := max (v - b) 0) (by omega) hb
  unfold way
  rw [tck_step hv hb, show (1 + tck (max (v - b) 0) b).toNat = (tck (max (v - b) 0) b).toNat + 1 from by omega, sumD_shift]
  by_cases h : b ≤ v
  · rw [Int.max_eq_left (by omega)]
  · rw [Int.max_eq_right (by omega), tck_zero hb]; rfl

/-- Induction on a speed that decreases by b. -/
theorem down_ind {b : Int} (hb : 1 ≤ b) (p : Int → Prop) (h0 : p 0) (hs : ∀ v, 1 ≤ v → p (max (v - b) 0) → p v) : ∀ v, 0 ≤ v → p v := by
  have H : ∀ n : Nat, ∀ v : Int, 0 ≤ v → v ≤ n → p v := by
    intro n
    induction n with
    | zero => intro v h1 h2; rw [show v = 0 from by omega]; exact h0
    | succ n ih =>
      intro v h1 h2
      by_cases hv : 1 ≤ v
      · exact hs v hv (ih _ (by omega) (by omega))
      · rw [show v = 0 from by omega]; exact h0
  intro v hv
  exact H v.toNat v hv (by omega)

theorem way_mono_le {b : Int} (hb : 1 ≤ b) : ∀ v, 0 ≤ v → ∀ v', v ≤ v' → way v b ≤ way v' b := by
  refine down_ind hb _ ?_ ?_
  · intro v' h
    rw [way_zero hb]; exact (way_bounds (by omega) hb).1
  · intro v hv ih v' h
    rw [way_step hv hb, way_step (v := v') (by omega) hb]
    have := ih (max (v' - b) 0) (by omega)
    omega

theorem way_strict {v b : Int} (hv : 1 ≤ v) (hb : 1 ≤ b) : way (v - 1) b < way v b := by
  rw [way_step hv hb]
  by_cases h : v = 1
  · subst h
    have h1 := way_zero hb
    have h2 := (way_bounds (v := max (1 - b) 0) (by omega) hb).1
    show way 0 b < _
    omega
  · rw [way_step (v := v - 1) (by omega) hb]
    have := way_mono_le hb (max (v - 1 - b) 0) (by omega) (max (v - b) 0) (by omega)
    omega

theorem way_anti {b b' : Int} (hb : 1 ≤ b) (h : b ≤ b') : ∀ v, 0 ≤ v → way v b' ≤ way v b := by
  refine down_ind (b := b') (by omega) _ ?_ ?_
  · rw [way_zero hb, way_zero (by omega)]; omega
  · intro v hv ih
    rw [way_step hv hb, way_step (b := b') hv (by omega)]
    have := way_mono_le hb (max (v - b') 0) (by omega) (max (v - b) 0) (by omega)
    omega

/-- The greatest k with 1 ≤ k ≤ n and p k, or 0. -/
def gr (p : Int → Bool) : Nat → Int
  | 0 => 0
  | n + 1 => if p (n + 1) then (n + 1 : Int) else gr p n
theorem gr_bounds (p : Int → Bool) : ∀ n : Nat, 0 ≤ gr p n ∧ gr p n ≤ n
  | 0 => by simp [gr]
  | n + 1 => by
    have := gr_bounds p n
    unfold gr; split <;> omega
theorem gr_hit (p : Int → Bool) (h0 : p 0 = true) : ∀ n : Nat, p (gr p n) = true
  | 0 => h0
  | n + 1 => by
    have := gr_hit p h0 n
    unfold gr; split
    · assumption
    · exact this
theorem gr_above (p : Int → Bool) : ∀ (n : Nat) (k : Int), gr p n < k → k ≤ n → p k = false
  | 0, k, h, h' => by simp [gr] at h; omega
  | n + 1, k, h, h' => by
    unfold gr at h
    split at h
    · omega
    · rename_i hp
      by_cases e : k = n + 1
      · subst e; simpa using hp
      · exact gr_above p n k h (by push_cast at h'; omega)
/-- p falls once and stays false. -/
theorem gr_unique (p : Int → Bool) (n : Nat) (hm : ∀ k : Int, 0 ≤ k → k + 1 ≤ n → p (k + 1) = true → p k = true) (r : Int) (h1 : 0 ≤ r) (h2 : r ≤ n) (hr : p r = true) (hr' : r < n → p (r + 1) = false) : r = gr p n := by
  have hb := gr_bounds p n
  have down : ∀ j : Nat, ∀ k : Int, 0 ≤ k → k + j ≤ n → p (k + j) = true → p k = true := by
    intro j
    induction j with
    | zero => intro k _ _ h; simpa using h
    | succ j ih =>
      intro k hk hj h
      refine ih k hk (by push_cast at hj; omega) (hm (k + j) (by omega) (by push_cast at hj; omega) ?_)
      have : k + (j : Int) + 1 = k + ((j + 1 : Nat) : Int) := by push_cast; omega
      rw [this]; exact h
  by_cases hlt : gr p n < r
  · have := gr_above p n r hlt h2
    rw [hr] at this; cases this
  · by_cases hgt : r < gr p n
    · have h3 := hr' (by omega)
      have h4 : p (gr p n) = true := by
        by_cases h0 : p 0 = true
        · exact gr_hit p h0 n
        · exfalso
          have := down r.toNat 0 (Int.le_refl 0) (by omega) (by rw [show (0 : Int) + (r.toNat : Int) = r from by omega]; exact hr)
          exact h0 this
      have h5 := down (gr p n - (r + 1)).toNat (r + 1) (by omega) (by omega) (by rw [show r + 1 + ((gr p n - (r + 1)).toNat : Int) = gr p n from by omega]; exact h4)
      rw [h3] at h5; cases h5
    · omega

/-- the greatest speed from which a robot stops within a way (for 1 ≤ b ≤ 4096) -/
def spd (w b : Int) : Int := gr (fun v => decide (way v b ≤ w)) 4096
/-- braking.Speed, for all integers -/
def spdF (w b : Int) : Int := if decide (0 ≤ w) && inB b 1 4096 then spd w b else 0
theorem spd_unique {w b r : Int} (hb : 1 ≤ b) (h1 : 0 ≤ r) (h2 : r ≤ 4096) (hr : way r b ≤ w) (hr' : r < 4096 → w < way (r + 1) b) : r = spd w b := by
  refine gr_unique _ 4096 ?_ r h1 (by omega) (by simpa using hr) (fun h => ?_)
  · intro k hk _ h
    have h' : way (k + 1) b ≤ w := of_decide_eq_true h
    have := way_mono_le hb k hk (k + 1) (by omega)
    exact decide_eq_true (by omega)
  · have := hr' (by omega)
    exact decide_eq_false (by omega)
theorem spd_spec {w b : Int} (hw : 0 ≤ w) (hb : 1 ≤ b) : 0 ≤ spd w b ∧ spd w b ≤ 4096 ∧ way (spd w b) b ≤ w ∧ (spd w b < 4096 → w < way (spd w b + 1) b) := by
  have h1 := gr_bounds (fun v => decide (way v b ≤ w)) 4096
  have h2 := gr_hit (fun v => decide (way v b ≤ w)) (by simp [way_zero hb, hw]) 4096
  refine ⟨h1.1, h1.2, of_decide_eq_true h2, fun h => ?_⟩
  have := of_decide_eq_false (gr_above (fun v => decide (way v b ≤ w)) 4096 (spd w b + 1) (by unfold spd; omega) (by have : ((4096 : Nat) : Int) = 4096 := rfl; omega))
  omega

/-- the gap that a speed requires -/
def need (v b h m : Int) : Int := way v b + h * (tck v b + 1) + m
/-- braking.Need, for all integers and limits -/
def needF (v s a b h m : Int) : Int := if inB v 0 4096 && vld s a b h m then need v b h m else 0
/-- braking.Safe -/
def safeF (v g s a b h m : Int) : Bool := inB v 0 4096 && vld s a b h m && decide (needF v s a b h m ≤ g)
/-- braking.Allowed -/
def allowF (g s a b h m : Int) : Int := if safeF 0 g s a b h m then gr (fun v => safeF v g s a b h m) s.toNat else -1

theorem mul_le_4096 {h t : Int} (h1 : 0 ≤ h) (h2 : h ≤ 4096) (h3 : 0 ≤ t) (h4 : t ≤ 4097) : 0 ≤ h * t ∧ h * t ≤ 16781312 := by
  refine ⟨Int.mul_nonneg h1 h3, ?_⟩
  have := Int.mul_le_mul h2 h4 h3 (by omega)
  omega
theorem way_le {v b : Int} (hv : 0 ≤ v) (hv' : v ≤ 4096) (hb : 1 ≤ b) : 0 ≤ way v b ∧ way v b ≤ 16777216 := by
  have h1 := way_bounds hv hb
  have h2 := Int.mul_le_mul hv' hv' hv (by omega : (0 : Int) ≤ 4096)
  omega
theorem need_bounds {v b h m : Int} (hv : 0 ≤ v) (hv' : v ≤ 4096) (hb : 1 ≤ b) (h1 : 0 ≤ h) (h2 : h ≤ 4096) (m1 : 0 ≤ m) (m2 : m ≤ 1048576) : 0 ≤ need v b h m ∧ need v b h m ≤ 34607104 := by
  have t := tck_bounds hv hb
  have p := mul_le_4096 (t := tck v b + 1) h1 h2 (by omega) (by omega)
  have q := way_le hv hv' hb
  unfold need; omega
theorem need_mono {v v' b h m : Int} (hv : 0 ≤ v) (hvv : v ≤ v') (hb : 1 ≤ b) (h1 : 0 ≤ h) : need v b h m ≤ need v' b h m := by
  have t := tck_mono hvv hb
  have w := way_mono_le hb v hv v' hvv
  have := Int.mul_le_mul_of_nonneg_left (show tck v b + 1 ≤ tck v' b + 1 by omega) h1
  unfold need; omega
theorem need_strict {v b h m : Int} (hv : 1 ≤ v) (hb : 1 ≤ b) (h1 : 0 ≤ h) : need (v - 1) b h m < need v b h m := by
  have t := tck_mono (show v - 1 ≤ v by omega) hb
  have w := way_strict hv hb
  have := Int.mul_le_mul_of_nonneg_left (show tck (v - 1) b + 1 ≤ tck v b + 1 by omega) h1
  unfold need; omega
theorem need_step {v b h m : Int} (hv : 1 ≤ v) (hb : 1 ≤ b) : need v b h m = v + h + need (max (v - b) 0) b h m := by
  unfold need
  rw [way_step hv hb, tck_step hv hb]
  have e : h * (1 + tck (max (v - b) 0) b + 1) = h * (tck (max (v - b) 0) b + 1) + h := by rw [show 1 + tck (max (v - b) 0) b + 1 = tck (max (v - b) 0) b + 1 + 1 from by omega, Int.mul_add h (tck (max (v - b) 0) b + 1) 1]; omega
  omega
theorem need_zero {b h m : Int} (hb : 1 ≤ b) : need 0 b h m = h + m := by
  unfold need; rw [way_zero hb, tck_zero hb]; omega

theorem safe_iff {v g s a b h m : Int} : safeF v g s a b h m = true ↔ (0 ≤ v ∧ v ≤ 4096) ∧ vld s a b h m = true ∧ need v b h m ≤ g := by
  unfold safeF needF
  simp only [Bool.and_eq_true, inB_iff, decide_eq_true_eq]
  constructor
  · rintro ⟨⟨h1, h2⟩, h3⟩
    rw [if_pos ⟨h1, h2⟩] at h3; exact ⟨h1, h2, h3⟩
  · rintro ⟨h1, h2, h3⟩
    rw [if_pos ⟨h1, h2⟩]; exact ⟨⟨h1, h2⟩, h3⟩
theorem safe_down {v v' g s a b h m : Int} (hs : safeF v' g s a b h m = true) (h0 : 0 ≤ v) (h1 : v ≤ v') : safeF v g s a b h m = true := by
  rw [safe_iff] at hs ⊢
  obtain ⟨h2, h3, h4⟩ := hs
  have h5 := vld_iff.1 h3
  have := need_mono (v := v) (v' := v') (b := b) (h := h) (m := m) h0 h1 (by omega) (by omega)
  exact ⟨by omega, h3, by omega⟩

theorem allow_unique {g s a b h m r : Int} (h0 : safeF 0 g s a b h m = true) (h1 : 0 ≤ r) (h2 : r ≤ s) (hr : safeF r g s a b h m = true) (hr' : r < s → safeF (r + 1) g s a b h m = false) : r = allowF g s a b h m := by
  have hv := vld_iff.1 (safe_iff.1 h0).2.1
  unfold allowF
  rw [if_pos h0]
  refine gr_unique _ _ ?_ r h1 (by omega) hr (fun h => hr' (by omega))
  intro k hk _ hs
  exact safe_down hs hk (by omega)
theorem allow_spec {g s a b h m : Int} (h0 : safeF 0 g s a b h m = true) : 0 ≤ allowF g s a b h m ∧ allowF g s a b h m ≤ s ∧ safeF (allowF g s a b h m) g s a b h m = true ∧ ∀ v, allowF g s a b h m < v → v ≤ s → safeF v g s a b h m = false := by
  have hv := vld_iff.1 (safe_iff.1 h0).2.1
  unfold allowF
  rw [if_pos h0]
  have h1 := gr_bounds (fun v => safeF v g s a b h m) s.toNat
  refine ⟨h1.1, by omega, gr_hit (fun v => safeF v g s a b h m) h0 s.toNat, fun v hv1 hv2 => gr_above (fun v => safeF v g s a b h m) s.toNat v hv1 (by omega)⟩
theorem allow_none {g s a b h m : Int} (h0 : safeF 0 g s a b h m = false) : allowF g s a b h m = -1 := by
  unfold allowF; rw [h0]; rfl

end Go.Proofs.Ytfcianhmfpenhaa.Bk
