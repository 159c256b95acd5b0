/- Walks: Limit in sum; awake. -/
import Derived.Test.YtfcianhmfpenhaaXh
import Derived.Test.YtfcianhmfpenhaaMot3
namespace Go.Proofs.Ytfcianhmfpenhaa
open Go.RowKit Go.Maps
set_option linter.unusedVariables false
set_option linter.unusedSimpArgs false
theorem vld_facts {px py vx vy S A B H M : Int} (ev : vld px py vx vy S A B H M = true) : 1 ≤ S ∧ S ≤ 4096 ∧ 1 ≤ A ∧ A ≤ 4096 ∧ 1 ≤ B ∧ B ≤ 4096 ∧ -4096 ≤ vx ∧ vx ≤ 4096 ∧ -4096 ≤ vy ∧ vy ≤ 4096 ∧ sqr vx vy ≤ S * S := by
  obtain ⟨k1, k2, k3, k4, k5, k6⟩ := vld_true ev
  obtain ⟨a1, a2, a3, a4, a5, a6, _⟩ := chk_true k1
  obtain ⟨b1, b2, b3, b4⟩ := vld_abs ev
  exact ⟨a1, a2, a3, by omega, a5, by omega, b1, b2, b3, b4, k6⟩
theorem brake_of {px py vx vy S A B H M : Int} (ev : vld px py vx vy S A B H M = true) (w : World) : Calls Try.prog 23 #[mo px py vx vy, lim S A B H M] w fun e w' => e = .returned (pt (brkX vx vy B) (brkY vx vy B)) ∧ Below w.heap.size w w' := by
  have h := brake_any px py vx vy S A B H M w
  rw [show brX px py vx vy S A B H M = brkX vx vy B from by unfold brX; rw [ev]; rfl, show brY px py vx vy S A B H M = brkY vx vy B from by unfold brY; rw [ev]; rfl] at h
  exact h
theorem limit_free {sb pb : Nat} {S A B H M kp al md : Int} (t px py vx vy wx wy c : Int) (ev : vld px py vx vy S A B H M = true) (c1 : 0 ≤ c) (c2 : c ≤ 4096) (hd : demB md = false) (w : World) (S0 : Hid (Sup w sb pb S A B H M kp al md))
    (HC : Hid (∀ w', Below w.heap.size w w' → Calls Try.prog 16 #[.pointer (some ⟨sb, 0, none⟩), .int .i64 t, pt px py] w' fun e w'' => e = .returned (.int .i64 c) ∧ Below w'.heap.size w' w'')) :
    Calls Try.prog 11 #[.pointer (some ⟨sb, 0, none⟩), .int .i64 t, mo px py vx vy, pt wx wy] w fun e w' => ∃ rx ry md', e = .returned (pt rx ry) ∧ Sup w' sb pb S A B H M kp al md' ∧ w.grownBy w' (some sb) ∧
      ((rx = stpX vx vy wx wy S A ∧ ry = stpY vx vy wx wy S A ∧ md' = 1 ∧ sqr rx ry ≤ c * c) ∨ (rx = brkX vx vy B ∧ ry = brkY vx vy B ∧ md' = 2 ∧ c * c < sqr (stpX vx vy wx wy S A) (stpY vx vy wx wy S A))) := by
  obtain ⟨s1, s2, a1, a2, b1, b2, v1, v2, v3, v4, hv⟩ := vld_facts ev
  obtain ⟨u1, u2, u3, u4⟩ := stp_range (wx := wx) (wy := wy) (A := A) s1 s2 a1 v1 v2 v3 v4 hv
  rcases Int.lt_or_le (c * c) (sqr (stpX vx vy wx wy S A) (stpY vx vy wx wy S A)) with h | h
  · refine (lim_bf t px py vx vy wx wy c _ _ _ _ (brkX vx vy B) (brkY vx vy B) w S0 c1 c2 u1 u2 u3 u4 HC (hid (fun w => step_yes px py vx vy wx wy S A B H M ev w)) (hid (fun w => brake_of ev w)) h hd).mono ?_
    rintro e w' ⟨rfl, hS, hg⟩
    exact ⟨_, _, 2, rfl, hS, hg, Or.inr ⟨rfl, rfl, rfl, h⟩⟩
  · refine (lim_af t px py vx vy wx wy c _ _ _ _ (brkX vx vy B) (brkY vx vy B) w S0 c1 c2 u1 u2 u3 u4 HC (hid (fun w => step_yes px py vx vy wx wy S A B H M ev w)) (hid (fun w => brake_of ev w)) h hd).mono ?_
    rintro e w' ⟨rfl, hS, hg⟩
    exact ⟨_, _, 1, rfl, hS, hg, Or.inl ⟨rfl, rfl, rfl, h⟩⟩
theorem sqr_zero {x y : Int} (h : sqr x y ≤ 0) : x = 0 ∧ y = 0 := by
  have := abs_of_sqr (S := 0) (by omega) (by simpa using h)
  omega
theorem limit_dem {sb pb : Nat} {S A B H M kp al md : Int} (t px py vx vy wx wy : Int) (t1 : 0 ≤ t) (t2 : t ≤ 1099511627776) (ev : vld px py vx vy S A B H M = true) (hd : demB md = true) (w : World) (S0 : Hid (Sup w sb pb S A B H M kp al md)) :
    Calls Try.prog 11 #[.pointer (some ⟨sb, 0, none⟩), .int .i64 t, mo px py vx vy, pt wx wy] w fun e w' => ∃ rx ry md', e = .returned (pt rx ry) ∧ Sup w' sb pb S A B H M kp al md' ∧ w.grownBy w' (some sb) ∧
      ((rx = 0 ∧ ry = 0) ∨ (rx = brkX vx vy B ∧ ry = brkY vx vy B)) ∧ (md' = md ∨ md' = 4) ∧ ((rx = 0 ∧ ry = 0) → (vx = 0 ∧ vy = 0) → md' = 4) := by
  obtain ⟨s1, s2, a1, a2, b1, b2, v1, v2, v3, v4, hv⟩ := vld_facts ev
  obtain ⟨u1, u2, u3, u4⟩ := stp_range (wx := wx) (wy := wy) (A := A) s1 s2 a1 v1 v2 v3 v4 hv
  have HC : Hid (∀ w', Below w.heap.size w w' → Calls Try.prog 16 #[.pointer (some ⟨sb, 0, none⟩), .int .i64 t, pt px py] w' fun e w'' => e = .returned (.int .i64 0) ∧ Below w'.heap.size w' w'') := hid (fun w' hb => ceil_dem t px py t1 t2 hd w' (hid (S0.out.below hb)))
  have HS := hid (fun w => step_yes px py vx vy wx wy S A B H M ev w)
  have HB := hid (fun w => brake_of ev w)
  rcases Int.lt_or_le (0 * 0) (sqr (stpX vx vy wx wy S A) (stpY vx vy wx wy S A)) with h | h
  · by_cases hz : (brkX vx vy B = 0 ∧ brkY vx vy B = 0) ∧ (vx = 0 ∧ vy = 0)
    · refine (lim_bs t px py vx vy wx wy 0 _ _ _ _ _ _ w S0 (by omega) (by omega) u1 u2 u3 u4 HC HS HB h hd (hid hz)).mono ?_
      rintro e w' ⟨rfl, hS, hg⟩
      exact ⟨_, _, 4, rfl, hS, hg, Or.inr ⟨rfl, rfl⟩, Or.inr rfl, fun _ _ => rfl⟩
    · refine (lim_bk t px py vx vy wx wy 0 _ _ _ _ _ _ w S0 (by omega) (by omega) u1 u2 u3 u4 HC HS HB h hd (hid hz)).mono ?_
      rintro e w' ⟨rfl, hS, hg⟩
      exact ⟨_, _, md, rfl, hS, hg, Or.inr ⟨rfl, rfl⟩, Or.inl rfl, fun g1 g2 => absurd ⟨g1, g2⟩ hz⟩
  · obtain ⟨e1, e2⟩ := sqr_zero (by omega : sqr (stpX vx vy wx wy S A) (stpY vx vy wx wy S A) ≤ 0)
    by_cases hz : (stpX vx vy wx wy S A = 0 ∧ stpY vx vy wx wy S A = 0) ∧ (vx = 0 ∧ vy = 0)
    · refine (lim_as t px py vx vy wx wy 0 _ _ _ _ _ _ w S0 (by omega) (by omega) u1 u2 u3 u4 HC HS HB h hd (hid hz)).mono ?_
      rintro e w' ⟨rfl, hS, hg⟩
      exact ⟨_, _, 4, rfl, hS, hg, Or.inl ⟨e1, e2⟩, Or.inr rfl, fun _ _ => rfl⟩
    · refine (lim_ak t px py vx vy wx wy 0 _ _ _ _ _ _ w S0 (by omega) (by omega) u1 u2 u3 u4 HC HS HB h hd (hid hz)).mono ?_
      rintro e w' ⟨rfl, hS, hg⟩
      exact ⟨_, _, md, rfl, hS, hg, Or.inl ⟨e1, e2⟩, Or.inl rfl, fun g1 g2 => absurd ⟨⟨e1, e2⟩, g2⟩ hz⟩
theorem aw_allow : Bk.allowF 599 100 50 20 10 500 = 40 := (Bk.allow_unique (by decide) (by decide) (by decide) (by decide) (fun _ => by decide)).symm
theorem aw_gd : gd 0 0 600 0 = 599 := by
  unfold gd
  rw [show sqr (0 - 600) (0 - 0) = 600 * 600 from by decide, isq_sq (by omega) (by omega)]
  decide
def awF : Int → Option (Int × Int × Int) := upd1 (fun _ => none) 1 (0, 600, 0)
theorem aw_now : Now 0 (fun _ => 600) (fun _ => 0) awF := fun i => by
  by_cases h : i = 1
  · subst h
    exact Or.inr ⟨upd1_same _ _ _, by decide, by decide, by decide, by decide⟩
  · exact Or.inl (upd1_ne h)
theorem aw_gap : IsGap awF (fun i => gd 0 0 ((fun _ => 600) i) ((fun _ => 0) i)) 599 := ⟨fun i _ _ => by show 599 ≤ gd 0 0 600 0; rw [aw_gd]; omega, 1, by decide, by rw [show awF 1 = some (0, 600, 0) from upd1_same _ _ _]; simp, aw_gd.symm⟩
theorem aw_ceil {sb pb mb : Nat} {al md : Int} {n : Nat} (hal : al = 0) (hd : demB md = false) (hn : n ≤ 1000) (w : World) (S0 : Hid (Sup w sb pb 100 50 20 10 500 20 al md)) (P0 : Hid (Per w pb mb 10 20 n awF)) :
    Calls Try.prog 16 #[.pointer (some ⟨sb, 0, none⟩), .int .i64 0, pt 0 0] w fun e w' => e = .returned (.int .i64 40) ∧ Below w.heap.size w w' := by
  subst hal
  have h := ceil_some 0 0 0 (fun _ => 600) (fun _ => 0) (by omega) (by omega) (by omega) (by omega) (by omega) (by omega) hd (by omega) (by omega) (by omega) (by omega) (by omega) (by omega) w S0 hn P0 (hid aw_now) 599 (hid aw_gap)
  rw [aw_allow] at h
  exact h
theorem aw_vld : vld 0 0 0 0 100 50 20 10 500 = true := by decide
theorem aw_stp : stpX 0 0 200 0 100 50 = 50 ∧ stpY 0 0 200 0 100 50 = 0 ∧ stpX 0 0 30 0 100 50 = 30 ∧ stpY 0 0 30 0 100 50 = 0 := ⟨by kernel_rfl, by kernel_rfl, by kernel_rfl, by kernel_rfl⟩
theorem aw_brk : brkX 0 0 20 = 0 ∧ brkY 0 0 20 = 0 := ⟨by kernel_rfl, by kernel_rfl⟩
theorem aw_lim1 {sb pb mb : Nat} {n : Nat} {md : Int} (hd : demB md = false) (hn : n ≤ 1000) (w : World) (S0 : Hid (Sup w sb pb 100 50 20 10 500 20 0 md)) (P0 : Hid (Per w pb mb 10 20 n awF)) :
    Calls Try.prog 11 #[.pointer (some ⟨sb, 0, none⟩), .int .i64 0, mo 0 0 0 0, pt 200 0] w fun e w' => e = .returned (pt 0 0) ∧ Sup w' sb pb 100 50 20 10 500 20 0 2 ∧ w.grownBy w' (some sb) := by
  obtain ⟨e1, e2, _, _⟩ := aw_stp
  obtain ⟨e3, e4⟩ := aw_brk
  refine (limit_free 0 0 0 0 0 200 0 40 aw_vld (by omega) (by omega) hd w S0 (hid (fun w' hb => aw_ceil rfl hd hn w' (hid (S0.out.below hb)) (hid (P0.out.below hb))))).mono ?_
  rintro e w' ⟨rx, ry, md', rfl, hS, hg, h⟩
  rw [e1, e2, e3, e4] at h
  rcases h with ⟨rfl, rfl, rfl, h⟩ | ⟨rfl, rfl, rfl, _⟩
  · exact absurd h (by decide)
  · exact ⟨rfl, hS, hg⟩
theorem aw_lim2 {sb pb mb : Nat} {n : Nat} {md : Int} (hd : demB md = false) (hn : n ≤ 1000) (w : World) (S0 : Hid (Sup w sb pb 100 50 20 10 500 20 0 md)) (P0 : Hid (Per w pb mb 10 20 n awF)) :
    Calls Try.prog 11 #[.pointer (some ⟨sb, 0, none⟩), .int .i64 0, mo 0 0 0 0, pt 30 0] w fun e w' => e = .returned (pt 30 0) ∧ w.grownBy w' (some sb) := by
  obtain ⟨_, _, e1, e2⟩ := aw_stp
  refine (limit_free 0 0 0 0 0 30 0 40 aw_vld (by omega) (by omega) hd w S0 (hid (fun w' hb => aw_ceil rfl hd hn w' (hid (S0.out.below hb)) (hid (P0.out.below hb))))).mono ?_
  rintro e w' ⟨rx, ry, md', rfl, hS, hg, h⟩
  rw [e1, e2] at h
  rcases h with ⟨rfl, rfl, rfl, h⟩ | ⟨_, _, _, h⟩
  · exact ⟨rfl, hg⟩
  · exact absurd h (by decide)
theorem Per.grown {w w' : World} {pb mb g : Nat} {H kp : Int} {n : Nat} {f : Int → Option (Int × Int × Int)} (h : Per w pb mb H kp n f) (hg : w.grownBy w' (some g)) (h1 : pb ≠ g) (h2 : mb ≠ g) : Per w' pb mb H kp n f :=
  h.kept hg.size (hg.block pb h.lt (fun e => h1 (by simpa using e))) (hg.block mb h.mlt (fun e => h2 (by simpa using e)))
theorem Sup.grown {w w' : World} {sb pb g : Nat} {S A B H M kp al md : Int} (h : Sup w sb pb S A B H M kp al md) (hg : w.grownBy w' (some g)) (h1 : sb ≠ g) : Sup w' sb pb S A B H M kp al md :=
  h.kept (Nat.lt_of_lt_of_le h.lt hg.size) (hg.block sb h.lt (fun e => h1 (by simpa using e)))
theorem bgr {B g : Nat} {w0 w w' : World} (h0 : Below B w0 w) (h : w.grownBy w' (some g)) (hB : B ≤ g) (hw : B ≤ w.heap.size) : Below B w0 w' := h0.grown h hw (fun j hj => by cases hj; exact hB)
set_option maxRecDepth 100000 in
set_option maxHeartbeats 4000000 in
theorem awake_any (w : World) : Calls Try.prog 6 #[] w fun e w' => e = .returned (.bool true) ∧ Below w.heap.size w w' := by
  have HN := hid (fun w => new_ok 100 50 20 10 500 20 (by decide) (by omega) (by omega) w)
  have qe := eql_pt
  go_enter Try.func6, Try.ntmps6
  go_upto_region 2 with (first | (go_at_call 7; (with_reducible refine (HN.out _).mono ?_); rintro e w1 ⟨sb, pb, mb, rfl, hS, hP, l1, l2, l3, n1, n2, n3, hb1⟩))
  have HS := hid hS
  have HP := hid hP
  have HAL := hid (alive_ok w1 hS.c7 hS.f7 (show (0:Int) ≤ 0 by omega) (show (0:Int) ≤ 1099511627776 by omega) (show (0:Int) ≤ 0 by omega))
  have HS2 := hid (hS.alive 0)
  have HP2 : Hid (Per (w1.setCell ⟨sb, 7, none⟩ (.int .i64 0)) pb mb 10 20 0 (fun _ => none)) := hid (hP.kept (by rw [set_sz]; exact Nat.le_refl _) (Below.heap_setCell _ _ _ _ (by show pb ≠ sb; omega)) (Below.heap_setCell _ _ _ _ (by show mb ≠ sb; omega)))
  have HSE := hid (see_ok 1 0 600 0 (by omega) (by omega) (by omega) (by omega) (by omega) (by omega) (by omega) (by omega) (fun a u v h => by cases h) _ HS2 HP2 (by omega))
  have HB2 : Hid (Below w.heap.size w (w1.setCell ⟨sb, 7, none⟩ (.int .i64 0))) := hid (hb1.setCell l1 _)
  have hs1 := hb1.size
  clear hS hP hb1
  go_upto_region 4 with (first
    | (go_at_call 10; (with_reducible refine HAL.out.mono ?_); rintro e w2 ⟨rfl, rfl⟩)
    | (go_at_call 9; (with_reducible refine HSE.out.mono ?_); rintro e w3 ⟨rfl, hP3, hg3⟩))
  have HP3 : Hid (Per w3 pb mb 10 20 1 awF) := hid hP3
  have HS3 := hid (HS2.out.grown hg3 (by omega))
  have HB3 := hid (bgr HB2.out hg3 l3 (by rw [set_sz]; exact hs1))
  have hs3 : w1.heap.size ≤ w3.heap.size := by have := hg3.size; rw [set_sz] at this; exact this
  clear hP3 hg3 HP2 HS2 HB2 HSE HAL HS HP
  have HC := hid (aw_ceil rfl (by decide) (by omega) w3 HS3 HP3)
  go_wp2_with (first
    | (go_at_call 16; (with_reducible refine HC.out.mono ?_); rintro e w4 ⟨rfl, hb4⟩; have hB4 := HB3.out.trans (hb4.mono (by omega)); have HB4 := hid hB4; have hs4 := hb4.size; have HS4 := hid (HS3.out.below hb4); have HP4 := hid (HP3.out.below hb4); have HL1 := hid (aw_lim1 (by decide) (by omega) w4 HS4 HP4); clear hb4 hB4)
    | (go_at_call 11; (with_reducible refine HL1.out.mono ?_); rintro e w5 ⟨rfl, hS5, hg5⟩; have HB5 := hid (bgr HB4.out hg5 l1 (by omega)); have hs5 := hg5.size; have HS5 := hid hS5; have HP5 := hid (HP4.out.grown hg5 (by omega) (by omega)); have HM5 := hid (mode_any w5 hS5.c8); have HL2 := hid (aw_lim2 (by decide) (by omega) w5 HS5 HP5); clear hg5 hS5)
    | (go_at_call 14; (with_reducible refine HM5.out.mono ?_); rintro e w6 ⟨rfl, rfl⟩)
    | (go_at_call 11; (with_reducible refine HL2.out.mono ?_); rintro e w7 ⟨rfl, hg7⟩; have HB7 := hid (bgr HB5.out hg7 l1 (by omega)); clear hg7))
  go_ret
  exact ⟨rfl, HB7.out⟩
end Go.Proofs.Ytfcianhmfpenhaa
