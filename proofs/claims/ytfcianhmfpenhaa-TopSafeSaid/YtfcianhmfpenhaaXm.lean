/- Walks: persons in memory, tick by tick; Limit where they are known. -/
import Derived.Test.YtfcianhmfpenhaaXk
import Derived.Test.YtfcianhmfpenhaaPs
namespace Go.Proofs.Ytfcianhmfpenhaa
open Go.RowKit Go.Maps
set_option linter.unusedVariables false
set_option linter.unusedSimpArgs false
/-- k of len persons were observed at tick t -/
def Prs (w : World) (pb mb : Nat) (H t : Int) (len k C : Nat) (X Y : Nat → Int) : Prop :=
  ∃ (n : Nat) (f : Int → Option (Int × Int × Int)), n ≤ C ∧ (len = 0 → n = 0) ∧ Per w pb mb H 5 n f ∧ (∀ i a u v, f i = some (a, u, v) → 1 ≤ i ∧ i ≤ len ∧ a ≤ t) ∧ ∀ i : Nat, i < k → f ((i : Int) + 1) = some (t, X i, Y i)
theorem Prs.start {w : World} {pb mb : Nat} {H : Int} (len : Nat) (X Y : Nat → Int) (h : Per w pb mb H 5 0 (fun _ => none)) : Prs w pb mb H 0 len 0 0 X Y :=
  ⟨0, _, Nat.le_refl _, fun _ => rfl, h, fun i a u v h => by simp at h, fun i h => absurd h (by omega)⟩
theorem Prs.next {w : World} {pb mb : Nat} {H t : Int} {len k C : Nat} {X Y : Nat → Int} (h : Prs w pb mb H t len k C X Y) (X' Y' : Nat → Int) : Prs w pb mb H (t + 1) len 0 C X' Y' := by
  obtain ⟨n, f, h1, h2, h3, h4, _⟩ := h
  exact ⟨n, f, h1, h2, h3, fun i a u v e => by have := h4 i a u v e; omega, fun i h => absurd h (by omega)⟩
theorem Prs.kept {w w' : World} {pb mb : Nat} {H t : Int} {len k C : Nat} {X Y : Nat → Int} (h : Prs w pb mb H t len k C X Y) (hs : w.heap.size ≤ w'.heap.size) (hb : w'.heap[pb]? = w.heap[pb]?) (hm : w'.heap[mb]? = w.heap[mb]?) : Prs w' pb mb H t len k C X Y := by
  obtain ⟨n, f, h1, h2, h3, h4, h5⟩ := h
  exact ⟨n, f, h1, h2, h3.kept hs hb hm, h4, h5⟩
theorem Prs.below {w w' : World} {pb mb : Nat} {H t : Int} {len k C : Nat} {X Y : Nat → Int} (h : Prs w pb mb H t len k C X Y) (hb : Below w.heap.size w w') : Prs w' pb mb H t len k C X Y := by
  obtain ⟨n, f, h1, h2, h3, h4, h5⟩ := h
  exact ⟨n, f, h1, h2, h3.below hb, h4, h5⟩
theorem Prs.grown {w w' : World} {pb mb g : Nat} {H t : Int} {len k C : Nat} {X Y : Nat → Int} (h : Prs w pb mb H t len k C X Y) (hg : w.grownBy w' (some g)) (q1 : pb ≠ g) (q2 : mb ≠ g) : Prs w' pb mb H t len k C X Y := by
  obtain ⟨n, f, h1, h2, h3, h4, h5⟩ := h
  exact ⟨n, f, h1, h2, h3.grown hg q1 q2, h4, h5⟩
theorem Prs.lt {w : World} {pb mb : Nat} {H t : Int} {len k C : Nat} {X Y : Nat → Int} (h : Prs w pb mb H t len k C X Y) : pb < w.heap.size ∧ mb < w.heap.size := by
  obtain ⟨n, f, h1, h2, h3, h4, h5⟩ := h
  exact ⟨h3.lt, h3.mlt⟩
theorem see_any {sb pb mb : Nat} {S A B H M al md : Int} {len k C : Nat} {X Y : Nat → Int} (t : Int) (t1 : 0 ≤ t) (t2 : t ≤ 1099511627776) (hk : k < len) (hl : len ≤ 8) (hC : C ≤ 1000)
    (x1 : -1048576 ≤ X k) (x2 : X k ≤ 1048576) (y1 : -1048576 ≤ Y k) (y2 : Y k ≤ 1048576) (w : World) (S0 : Hid (Sup w sb pb S A B H M 5 al md)) (P0 : Hid (Prs w pb mb H t len k C X Y)) :
    Calls Try.prog 9 #[.pointer (some ⟨sb, 0, none⟩), .int .i64 ((k : Int) + 1), .int .i64 t, pt (X k) (Y k)] w fun e w' => e = .returned (.int .i64 0) ∧ Prs w' pb mb H t len (k + 1) (C + 1) X Y ∧ w.grownBy w' (some mb) := by
  obtain ⟨n, f, h1, h2, h3, h4, h5⟩ := P0.out
  refine (see_ok ((k : Int) + 1) t (X k) (Y k) (by omega) (by omega) t1 t2 x1 x2 y1 y2 (fun a u v e => (h4 _ a u v e).2.2) w S0 (hid h3) (by omega)).mono ?_
  rintro e w' ⟨rfl, hP, hg⟩
  refine ⟨rfl, ⟨n + 1, _, by omega, fun e => by omega, hP, fun i a u v e => ?_, fun i hi => ?_⟩, hg⟩
  · by_cases hik : i = (k : Int) + 1
    · subst hik
      rw [upd1_same] at e
      simp at e
      omega
    · rw [upd1_ne hik] at e
      exact h4 i a u v e
  · by_cases hik : i = k
    · subst hik
      rw [upd1_same]
    · rw [upd1_ne (by omega)]
      exact h5 i (by omega)
/-- Limit where persons were observed, or nobody is there -/
theorem limit_seen {sb pb mb : Nat} {S A B H M al md : Int} {len C : Nat} {X Y : Nat → Int} (t px py vx vy wx wy : Int) (t1 : 0 ≤ t) (t2 : t ≤ 1099511627776) (hal : 0 ≤ al) (hal2 : al ≤ t) (hal3 : t - al ≤ 5) (ev : vld px py vx vy S A B H M = true) (hd : demB md = false) (hC : C ≤ 1000) (hl8 : len ≤ 8)
    (hX : ∀ i, i < len → -1048576 ≤ X i ∧ X i ≤ 1048576 ∧ -1048576 ≤ Y i ∧ Y i ≤ 1048576) (hI : Inv S B H M len px py vx vy X Y) (w : World) (S0 : Hid (Sup w sb pb S A B H M 5 al md)) (P0 : Hid (Prs w pb mb H t len len C X Y)) :
    Calls Try.prog 11 #[.pointer (some ⟨sb, 0, none⟩), .int .i64 t, mo px py vx vy, pt wx wy] w fun e w' => ∃ rx ry md', e = .returned (pt rx ry) ∧ Sup w' sb pb S A B H M 5 al md' ∧ demB md' = false ∧ w.grownBy w' (some sb) ∧ sqr rx ry ≤ S * S ∧ ∃ c, Hlf S B H M len 0 c px py rx ry X Y := by
  obtain ⟨s1, s2, a1, a2, b1, b2, v1, v2, v3, v4, hv⟩ := vld_facts ev
  obtain ⟨ec, p1, p2, p3, p4, _⟩ := vld_true ev
  obtain ⟨_, _, _, _, _, _, q1, q2, m1, m2⟩ := chk_true ec
  have hsp := stp_speed (wx := wx) (wy := wy) (S := S) (A := A) (by omega) (by omega) v1 v2 v3 v4 hv
  obtain ⟨n, f, h1, h2, h3, h4, h5⟩ := P0.out
  by_cases hl : len = 0
  · subst hl
    have hn : n = 0 := h2 rfl
    subst hn
    have hf : f = fun _ => none := by
      funext i
      cases e : f i with
      | none => rfl
      | some p =>
        obtain ⟨a, u, v⟩ := p
        have := h4 i a u v e
        omega
    subst hf
    refine (limit_alone t px py vx vy wx wy t1 t2 (by omega) hal hal2 hal3 ev hd w S0 (hid h3)).mono ?_
    rintro e w' ⟨rx, ry, md', rfl, hS, hD, hg, hq⟩
    exact ⟨rx, ry, md', rfl, hS, hD, hg, hq, hlf_none s1 hq⟩
  · have hNow : Now t (fun i => X (i - 1).toNat) (fun i => Y (i - 1).toNat) f := fun i => by
      cases e : f i with
      | none => exact Or.inl rfl
      | some p =>
        obtain ⟨a, u, v⟩ := p
        have h6 := h4 i a u v e
        have h7 := h5 (i - 1).toNat (by omega)
        rw [show (((i - 1).toNat : Nat) : Int) + 1 = i from by omega, e] at h7
        exact Or.inr ⟨h7, hX _ (by omega)⟩
    have hne : ∀ i : Nat, i < len → f ((i : Int) + 1) ≠ none := fun i hi => by rw [h5 i hi]; simp
    obtain ⟨g, hgap⟩ := IsGap.ex (f := f) (d := fun i => gd px py ((fun i => X (i - 1).toNat) i) ((fun i => Y (i - 1).toNat) i)) (fun i => gd_nonneg _ _ _ _) (i0 := ((0 : Nat) : Int) + 1) (by decide) (hne 0 (by omega))
    have hg : ∀ i, i < len → g ≤ max 0 (isq (sqr (px - X i) (py - Y i)) - 1) := fun i hi => by
      have := hgap.1 ((i : Int) + 1) (by unfold wf64; simp [Lit.wf, IntKind.min, IntKind.max, IntKind.signed, IntKind.bits]; have := h4 _ _ _ _ (h5 i hi); omega) (hne i hi)
      have e : ((i : Int) + 1 - 1).toNat = i := by omega
      simp only [e] at this
      exact this
    have hb : ∀ i, i < len → sqr (px - X i) (py - Y i) < 18446744073709551616 := fun i hi => by
      obtain ⟨e1, e2, e3, e4⟩ := hX i hi
      have := sqr_le (x := px - X i) (y := py - Y i) (b := 2097152) (by omega) (by omega) (by omega) (by omega)
      omega
    have hcS : max 0 (Bk.allowF g S A B H M) ≤ S := by
      cases e : Bk.safeF 0 g S A B H M with
      | true => have := Bk.allow_spec e; omega
      | false => rw [Bk.allow_none e]; omega
    refine (limit_free t px py vx vy wx wy (max 0 (Bk.allowF g S A B H M)) ev (by omega) (by omega) hd w S0 (hid (fun w' hbw => ceil_some t px py _ _ t1 t2 (by omega) hal hal2 hal3 hd p1 p2 p3 p4 q1 q2 w' (hid (S0.out.below hbw)) (by omega) (hid (h3.below hbw)) (hid hNow) g (hid hgap)))).mono ?_
    rintro e w' ⟨rx, ry, md', rfl, hS, hgr, h⟩
    rcases h with ⟨_, _, rfl, h⟩ | ⟨rfl, rfl, rfl, h⟩
    · exact ⟨rx, ry, 1, rfl, hS, by decide, hgr, Int.le_trans h (sq_le (by omega) hcS), hlf_ceil b1 q1 m1 h hg hb⟩
    · refine ⟨_, _, 2, rfl, hS, by decide, hgr, ?_, hlf_brk s2 b1 hI⟩
      exact Int.le_trans (brk_bound (by omega) (L := S) (by omega) s2 hv) (sq_le (by omega) (by omega))
end Go.Proofs.Ytfcianhmfpenhaa
