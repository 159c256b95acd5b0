/- Walks: the velocity that a robot may have. -/
import Derived.Test.YtfcianhmfpenhaaXg
namespace Go.Proofs.Ytfcianhmfpenhaa
open Go.RowKit Go.Maps
set_option linter.unusedVariables false
set_option linter.unusedSimpArgs false
theorem set_sz (w : World) (p : Addr) (u : Value) : (w.setCell p u).heap.size = w.heap.size := by simp [World.setCell]
theorem gset {g : Nat} {w w' : World} (h : w.grownBy w' (some g)) {p : Addr} (hp : w.heap.size ≤ p.block ∨ p.block = g) (u : Value) : w.grownBy (w'.setCell p u) (some g) :=
  ⟨h.os, h.tape, h.output, by rw [set_sz]; exact h.size, fun k hk hg => (Below.heap_setCell _ _ _ _ (by have : k ≠ g := fun e => hg (by rw [e]); omega)).trans (h.block k hk hg)⟩
theorem gof {g : Nat} {w w' : World} (h : Below w.heap.size w w') : w.grownBy w' (some g) := ⟨h.os, h.tape, h.output, h.size, fun k hk _ => h.block k hk⟩
theorem Sup.far {w : World} {sb pb : Nat} {S A B H M kp al md : Int} (h : Sup w sb pb S A B H M kp al md) {p : Addr} (hp : sb ≠ p.block) (u : Value) : Sup (w.setCell p u) sb pb S A B H M kp al md :=
  h.kept (by rw [set_sz]; exact h.lt) (Below.heap_setCell _ _ _ _ hp)
set_option maxRecDepth 100000 in
set_option maxHeartbeats 4000000 in
theorem lim_af {sb pb : Nat} {S A B H M kp al md : Int} (t px py vx vy wx wy c qx qy ux uy bx bz : Int) (w : World) (S0 : Hid (Sup w sb pb S A B H M kp al md)) (c1 : 0 ≤ c) (c2 : c ≤ 4096)
    (u1 : -4096 ≤ ux) (u2 : ux ≤ 4096) (u3 : -4096 ≤ uy) (u4 : uy ≤ 4096)
    (HC : Hid (∀ w', Below w.heap.size w w' → Calls Try.prog 16 #[.pointer (some ⟨sb, 0, none⟩), .int .i64 t, pt px py] w' fun e w'' => e = .returned (.int .i64 c) ∧ Below w'.heap.size w' w''))
    (HST : Hid (∀ w, Calls Try.prog 21 #[mo px py vx vy, pt wx wy, lim S A B H M] w fun e w' => e = .returned (mo qx qy ux uy) ∧ Below w.heap.size w w'))
    (HBR : Hid (∀ w, Calls Try.prog 23 #[mo px py vx vy, lim S A B H M] w fun e w' => e = .returned (pt bx bz) ∧ Below w.heap.size w w'))
    (hcmp : sqr ux uy ≤ c * c) (hd : demB md = false) :
    Calls Try.prog 11 #[.pointer (some ⟨sb, 0, none⟩), .int .i64 t, mo px py vx vy, pt wx wy] w fun e w' => e = .returned (pt ux uy) ∧ Sup w' sb pb S A B H M kp al 1 ∧ w.grownBy w' (some sb) := by
  have slt := S0.out.lt
  obtain ⟨_, s0, s1, s2, s3, s4, s5, s6, s7, s8, _, f8⟩ := S0.out
  have n1 := sq_self_nonneg ux
  have n2 := sq_self_nonneg uy
  have n3 := sq_abs_le u1 u2
  have n4 := sq_abs_le u3 u4
  have n5 := sq_self_nonneg c
  have n6 := sq_abs_le (x := c) (b := 4096) (by omega) c2
  have HDT := hid (fun w => dot_any ux uy ux uy (by omega) (by omega) (by omega) (by omega) w)
  have hsq : ux * ux + uy * uy = sqr ux uy := rfl
  rw [hsq] at HDT
  clear hsq n1 n2 n3 n4
  generalize sqr ux uy = q at *
  generalize hcc : c * c = cc at *
  have qf := field_vel
  have HB0 : Hid (Below w.heap.size w (((w.alloc (.cells #[.int .i64 px, .int .i64 py, .int .i64 vx, .int .i64 vy] 37)).alloc (.cells #[.int .i64 wx, .int .i64 wy] 35)).alloc (.cells #[.int .i64 0, .int .i64 0] 35))) := hid ((((Below.refl _ _).alloc (Nat.le_refl _) _).alloc (by simp) _).alloc (by simp <;> omega) _)
  go_enter Try.func11, Try.ntmps11
  go_upto_region 4 with (first | (go_at_call 16; (with_reducible refine (HC.out _ HB0.out).mono ?_); rintro e w2 ⟨rfl, hb⟩))
  have hsz : w.heap.size + 1 + 1 < w2.heap.size := by have := hb.size; simp at this; omega
  have HB2 := HB0.out.trans (hb.mono (by simp <;> omega))
  obtain ⟨hc, hf⟩ := bcell hb
  have m0 : w2.cell? ⟨w.heap.size, 0, none⟩ = some (.int .i64 px) := (hc _ _ (by simp <;> omega)).trans (by simp [go_sem])
  have m1 : w2.cell? ⟨w.heap.size, 1, none⟩ = some (.int .i64 py) := (hc _ _ (by simp <;> omega)).trans (by simp [go_sem])
  have m2 : w2.cell? ⟨w.heap.size, 2, none⟩ = some (.int .i64 vx) := (hc _ _ (by simp <;> omega)).trans (by simp [go_sem])
  have m3 : w2.cell? ⟨w.heap.size, 3, none⟩ = some (.int .i64 vy) := (hc _ _ (by simp <;> omega)).trans (by simp [go_sem])
  have m4 : w2.cell? ⟨w.heap.size + 1, 0, none⟩ = some (.int .i64 wx) := (hc _ _ (by simp <;> omega)).trans (by simp [go_sem])
  have m5 : w2.cell? ⟨w.heap.size + 1, 1, none⟩ = some (.int .i64 wy) := (hc _ _ (by simp <;> omega)).trans (by simp [go_sem])
  have m6 : w2.cell? ⟨w.heap.size + 1 + 1, 0, none⟩ = some (.int .i64 0) := (hc _ _ (by simp <;> omega)).trans (by simp [go_sem])
  have m7 : w2.cell? ⟨w.heap.size + 1 + 1, 1, none⟩ = some (.int .i64 0) := (hc _ _ (by simp <;> omega)).trans (by simp [go_sem])
  have m8 : w2.frozen? ⟨w.heap.size + 1 + 1, 0, none⟩ = false := (hf _ _ (by simp <;> omega)).trans (by simp [go_sem])
  have m9 : w2.frozen? ⟨w.heap.size + 1 + 1, 1, none⟩ = false := (hf _ _ (by simp <;> omega)).trans (by simp [go_sem])
  have HM := hid (And.intro m0 (And.intro m1 (And.intro m2 (And.intro m3 (And.intro m4 (And.intro m5 (And.intro m6 (And.intro m7 (And.intro m8 m9)))))))))
  clear m0 m1 m2 m3 m4 m5 m6 m7 m8 m9 hc hf hb
  have HSU := hid (S0.out.below HB2)
  have hs2 := HB2.size
  clear s0 s1 s2 s3 s4 s5 s6 s7 s8 f8
  have HB2' := hid HB2
  clear HB2
  go_cut [10] (fun s10 wq => ∃ g : Nat, s10 = .pointer (some ⟨g, 0, none⟩) ∧ g < wq.heap.size ∧ w2.heap.size ≤ g ∧ wq.cell? ⟨g, 0, none⟩ = some (.int .i64 ux) ∧ wq.cell? ⟨g, 1, none⟩ = some (.int .i64 uy) ∧ wq.frozen? ⟨g, 0, none⟩ = false ∧ wq.frozen? ⟨g, 1, none⟩ = false ∧ Below w2.heap.size w2 wq)
  case first =>
    refine wp_region_fresh 8 9 (fun _ => .cells #[.int .i64 0, .int .i64 0] 35) (by kernel_rfl) (by kernel_rfl) (by omega) (by kernel_rfl) ?_
    apply Exists.intro
    refine ⟨fun v1 kb1 => ?_, ?_⟩
    · have ks1 := kb1.size
      obtain ⟨m0, m1, m2, m3, m4, m5, _⟩ := HM.out
      obtain ⟨_, s0, s1, s2, s3, s4, _⟩ := HSU.out
      have hl0 : ∀ (z : Later v1) (o : Nat), z.val.cell? ⟨w.heap.size, o, none⟩ = w2.cell? ⟨w.heap.size, o, none⟩ := fun z o => (z.cell (by omega)).trans (kb1.cell (by show w.heap.size < w2.heap.size; omega))
      have hl1 : ∀ (z : Later v1) (o : Nat), z.val.cell? ⟨w.heap.size + 1, o, none⟩ = w2.cell? ⟨w.heap.size + 1, o, none⟩ := fun z o => (z.cell (by omega)).trans (kb1.cell (by show w.heap.size + 1 < w2.heap.size; omega))
      have hl2 : ∀ (z : Later v1) (o : Nat), z.val.cell? ⟨sb, o, none⟩ = w2.cell? ⟨sb, o, none⟩ := fun z o => (z.cell (by omega)).trans (kb1.cell (by show sb < w2.heap.size; omega))
      simp only [List.take_succ_cons, List.take_zero]
      repeat (go_big_quiet_step ((go_at_call 21; with_reducible exact calls_later (HST.out _))))
      exact wpQuiet_nil rfl
    · simp only [List.take_succ_cons, List.take_zero, List.drop_succ_cons, List.drop_zero]
      refine wpHead_new (by decide) rfl (run_alloc23 _ _ _ _ _ _) (fun g hg e1 => ?_)
      intro w' hS
      have b1 := (hS.own g _ upd_same).2
      have g1 := hS.lt (g := g) upd_same
      obtain ⟨c1, f1⟩ := block_cells b1
      have hbb := hS.below
      have q0 := c1 0
      have q1 := c1 1
      simp only [List.getElem?_toArray, List.getElem?_cons_zero, List.getElem?_cons_succ] at q0 q1
      clear c1 b1 hS e1
      simp only [Act.put, List.setIfInBounds_toArray, List.set_cons_zero, List.set_cons_succ]
      go_wp2
      go_meet
      case rel =>
        refine ⟨g, rfl, by simpa [World.setCell] using g1, by omega, ?_, ?_, ?_, ?_, ?_⟩
        · go_simp
        · go_simp
        · go_simp
        · go_simp
        · exact ((hbb.setCell hg _).setCell hg _)
  case rest =>
    obtain ⟨g, rfl, hg, hgl, k0, k1, k2, k3, hb3⟩ := hcut
    clear HST
    go_upto_region 9 with (first | (go_at_call 22; (with_reducible refine (HDT.out _).mono ?_); rintro e w4 ⟨rfl, hb4⟩))
    obtain ⟨hc3, hf3⟩ := bcell hb4
    have k0 : w4.cell? ⟨g, 0, none⟩ = some (.int .i64 ux) := (hc3 _ _ hg).trans k0
    have k1 : w4.cell? ⟨g, 1, none⟩ = some (.int .i64 uy) := (hc3 _ _ hg).trans k1
    have k2 : w4.frozen? ⟨g, 0, none⟩ = false := (hf3 _ _ hg).trans k2
    have k3 : w4.frozen? ⟨g, 1, none⟩ = false := (hf3 _ _ hg).trans k3
    have hB4 := hb3.trans (hb4.mono hb3.size)
    have hg4 : g < w4.heap.size := Nat.lt_of_lt_of_le hg hb4.size
    clear hc3 hf3 hb4 hb3 hg
    clear HBR HDT
    have hs4 := hB4.size
    obtain ⟨hc3, hf3⟩ := bcell hB4
    obtain ⟨m0, m1, m2, m3, m4, m5, m6, m7, m8, m9⟩ := HM.out
    have m2 := (hc3 _ _ (by omega)).trans m2
    have m3 := (hc3 _ _ (by omega)).trans m3
    have m6 := (hc3 _ _ (by omega)).trans m6
    have m7 := (hc3 _ _ (by omega)).trans m7
    have m8 := (hf3 _ _ (by omega)).trans m8
    have m9 := (hf3 _ _ (by omega)).trans m9
    have HS4 := hid (HSU.out.below hB4)
    have s8 := HS4.out.c8
    have f8 := HS4.out.f8
    have HDM := hid (dem_any _ s8)
    rw [hd] at HDM
    clear m0 m1 m4 m5 hc3 hf3 HM HSU
    have d1 : g ≠ sb := by omega
    have d2 : sb ≠ g := by omega
    have d3 : w.heap.size + 1 + 1 ≠ sb := by omega
    have d4 : sb ≠ w.heap.size + 1 + 1 := by omega
    have d5 : g ≠ w.heap.size + 1 + 1 := by omega
    have d6 : w.heap.size ≠ sb := by omega
    have HBF := HB2'.out.trans (hB4.mono hs2)
    have qe := eql_pt
    go_wp2_with (first | (go_at_call 24; (with_reducible refine HDM.out.mono ?_); rintro e w5 ⟨rfl, rfl⟩))
    (try simp only [Exit.inBlock, Exit.then])
    refine bodyPost_ret (v := pt ux uy) (by simp [results, Try.results11, go_sem, *]) rfl ?_
    exact ⟨rfl, ((HS4.out.mode _).far (by show sb ≠ w.heap.size + 1 + 1; omega) _).far (by show sb ≠ w.heap.size + 1 + 1; omega) _, gset (gset (gset (gof HBF) (Or.inr rfl) _) (Or.inl (by show w.heap.size ≤ w.heap.size + 1 + 1; omega)) _) (Or.inl (by show w.heap.size ≤ w.heap.size + 1 + 1; omega)) _⟩
set_option maxRecDepth 100000 in
set_option maxHeartbeats 4000000 in
theorem lim_as {sb pb : Nat} {S A B H M kp al md : Int} (t px py vx vy wx wy c qx qy ux uy bx bz : Int) (w : World) (S0 : Hid (Sup w sb pb S A B H M kp al md)) (c1 : 0 ≤ c) (c2 : c ≤ 4096)
    (u1 : -4096 ≤ ux) (u2 : ux ≤ 4096) (u3 : -4096 ≤ uy) (u4 : uy ≤ 4096)
    (HC : Hid (∀ w', Below w.heap.size w w' → Calls Try.prog 16 #[.pointer (some ⟨sb, 0, none⟩), .int .i64 t, pt px py] w' fun e w'' => e = .returned (.int .i64 c) ∧ Below w'.heap.size w' w''))
    (HST : Hid (∀ w, Calls Try.prog 21 #[mo px py vx vy, pt wx wy, lim S A B H M] w fun e w' => e = .returned (mo qx qy ux uy) ∧ Below w.heap.size w w'))
    (HBR : Hid (∀ w, Calls Try.prog 23 #[mo px py vx vy, lim S A B H M] w fun e w' => e = .returned (pt bx bz) ∧ Below w.heap.size w w'))
    (hcmp : sqr ux uy ≤ c * c) (hd : demB md = true) (hz : Hid ((ux = 0 ∧ uy = 0) ∧ (vx = 0 ∧ vy = 0))) :
    Calls Try.prog 11 #[.pointer (some ⟨sb, 0, none⟩), .int .i64 t, mo px py vx vy, pt wx wy] w fun e w' => e = .returned (pt ux uy) ∧ Sup w' sb pb S A B H M kp al 4 ∧ w.grownBy w' (some sb) := by
  have slt := S0.out.lt
  obtain ⟨_, s0, s1, s2, s3, s4, s5, s6, s7, s8, _, f8⟩ := S0.out
  have n1 := sq_self_nonneg ux
  have n2 := sq_self_nonneg uy
  have n3 := sq_abs_le u1 u2
  have n4 := sq_abs_le u3 u4
  have n5 := sq_self_nonneg c
  have n6 := sq_abs_le (x := c) (b := 4096) (by omega) c2
  have HDT := hid (fun w => dot_any ux uy ux uy (by omega) (by omega) (by omega) (by omega) w)
  have hsq : ux * ux + uy * uy = sqr ux uy := rfl
  rw [hsq] at HDT
  clear hsq n1 n2 n3 n4
  generalize sqr ux uy = q at *
  generalize hcc : c * c = cc at *
  have qf := field_vel
  have HB0 : Hid (Below w.heap.size w (((w.alloc (.cells #[.int .i64 px, .int .i64 py, .int .i64 vx, .int .i64 vy] 37)).alloc (.cells #[.int .i64 wx, .int .i64 wy] 35)).alloc (.cells #[.int .i64 0, .int .i64 0] 35))) := hid ((((Below.refl _ _).alloc (Nat.le_refl _) _).alloc (by simp) _).alloc (by simp <;> omega) _)
  go_enter Try.func11, Try.ntmps11
  go_upto_region 4 with (first | (go_at_call 16; (with_reducible refine (HC.out _ HB0.out).mono ?_); rintro e w2 ⟨rfl, hb⟩))
  have hsz : w.heap.size + 1 + 1 < w2.heap.size := by have := hb.size; simp at this; omega
  have HB2 := HB0.out.trans (hb.mono (by simp <;> omega))
  obtain ⟨hc, hf⟩ := bcell hb
  have m0 : w2.cell? ⟨w.heap.size, 0, none⟩ = some (.int .i64 px) := (hc _ _ (by simp <;> omega)).trans (by simp [go_sem])
  have m1 : w2.cell? ⟨w.heap.size, 1, none⟩ = some (.int .i64 py) := (hc _ _ (by simp <;> omega)).trans (by simp [go_sem])
  have m2 : w2.cell? ⟨w.heap.size, 2, none⟩ = some (.int .i64 vx) := (hc _ _ (by simp <;> omega)).trans (by simp [go_sem])
  have m3 : w2.cell? ⟨w.heap.size, 3, none⟩ = some (.int .i64 vy) := (hc _ _ (by simp <;> omega)).trans (by simp [go_sem])
  have m4 : w2.cell? ⟨w.heap.size + 1, 0, none⟩ = some (.int .i64 wx) := (hc _ _ (by simp <;> omega)).trans (by simp [go_sem])
  have m5 : w2.cell? ⟨w.heap.size + 1, 1, none⟩ = some (.int .i64 wy) := (hc _ _ (by simp <;> omega)).trans (by simp [go_sem])
  have m6 : w2.cell? ⟨w.heap.size + 1 + 1, 0, none⟩ = some (.int .i64 0) := (hc _ _ (by simp <;> omega)).trans (by simp [go_sem])
  have m7 : w2.cell? ⟨w.heap.size + 1 + 1, 1, none⟩ = some (.int .i64 0) := (hc _ _ (by simp <;> omega)).trans (by simp [go_sem])
  have m8 : w2.frozen? ⟨w.heap.size + 1 + 1, 0, none⟩ = false := (hf _ _ (by simp <;> omega)).trans (by simp [go_sem])
  have m9 : w2.frozen? ⟨w.heap.size + 1 + 1, 1, none⟩ = false := (hf _ _ (by simp <;> omega)).trans (by simp [go_sem])
  have HM := hid (And.intro m0 (And.intro m1 (And.intro m2 (And.intro m3 (And.intro m4 (And.intro m5 (And.intro m6 (And.intro m7 (And.intro m8 m9)))))))))
  clear m0 m1 m2 m3 m4 m5 m6 m7 m8 m9 hc hf hb
  have HSU := hid (S0.out.below HB2)
  have hs2 := HB2.size
  clear s0 s1 s2 s3 s4 s5 s6 s7 s8 f8
  have HB2' := hid HB2
  clear HB2
  go_cut [10] (fun s10 wq => ∃ g : Nat, s10 = .pointer (some ⟨g, 0, none⟩) ∧ g < wq.heap.size ∧ w2.heap.size ≤ g ∧ wq.cell? ⟨g, 0, none⟩ = some (.int .i64 ux) ∧ wq.cell? ⟨g, 1, none⟩ = some (.int .i64 uy) ∧ wq.frozen? ⟨g, 0, none⟩ = false ∧ wq.frozen? ⟨g, 1, none⟩ = false ∧ Below w2.heap.size w2 wq)
  case first =>
    refine wp_region_fresh 8 9 (fun _ => .cells #[.int .i64 0, .int .i64 0] 35) (by kernel_rfl) (by kernel_rfl) (by omega) (by kernel_rfl) ?_
    apply Exists.intro
    refine ⟨fun v1 kb1 => ?_, ?_⟩
    · have ks1 := kb1.size
      obtain ⟨m0, m1, m2, m3, m4, m5, _⟩ := HM.out
      obtain ⟨_, s0, s1, s2, s3, s4, _⟩ := HSU.out
      have hl0 : ∀ (z : Later v1) (o : Nat), z.val.cell? ⟨w.heap.size, o, none⟩ = w2.cell? ⟨w.heap.size, o, none⟩ := fun z o => (z.cell (by omega)).trans (kb1.cell (by show w.heap.size < w2.heap.size; omega))
      have hl1 : ∀ (z : Later v1) (o : Nat), z.val.cell? ⟨w.heap.size + 1, o, none⟩ = w2.cell? ⟨w.heap.size + 1, o, none⟩ := fun z o => (z.cell (by omega)).trans (kb1.cell (by show w.heap.size + 1 < w2.heap.size; omega))
      have hl2 : ∀ (z : Later v1) (o : Nat), z.val.cell? ⟨sb, o, none⟩ = w2.cell? ⟨sb, o, none⟩ := fun z o => (z.cell (by omega)).trans (kb1.cell (by show sb < w2.heap.size; omega))
      simp only [List.take_succ_cons, List.take_zero]
      repeat (go_big_quiet_step ((go_at_call 21; with_reducible exact calls_later (HST.out _))))
      exact wpQuiet_nil rfl
    · simp only [List.take_succ_cons, List.take_zero, List.drop_succ_cons, List.drop_zero]
      refine wpHead_new (by decide) rfl (run_alloc23 _ _ _ _ _ _) (fun g hg e1 => ?_)
      intro w' hS
      have b1 := (hS.own g _ upd_same).2
      have g1 := hS.lt (g := g) upd_same
      obtain ⟨c1, f1⟩ := block_cells b1
      have hbb := hS.below
      have q0 := c1 0
      have q1 := c1 1
      simp only [List.getElem?_toArray, List.getElem?_cons_zero, List.getElem?_cons_succ] at q0 q1
      clear c1 b1 hS e1
      simp only [Act.put, List.setIfInBounds_toArray, List.set_cons_zero, List.set_cons_succ]
      go_wp2
      go_meet
      case rel =>
        refine ⟨g, rfl, by simpa [World.setCell] using g1, by omega, ?_, ?_, ?_, ?_, ?_⟩
        · go_simp
        · go_simp
        · go_simp
        · go_simp
        · exact ((hbb.setCell hg _).setCell hg _)
  case rest =>
    obtain ⟨g, rfl, hg, hgl, k0, k1, k2, k3, hb3⟩ := hcut
    clear HST
    go_upto_region 9 with (first | (go_at_call 22; (with_reducible refine (HDT.out _).mono ?_); rintro e w4 ⟨rfl, hb4⟩))
    obtain ⟨hc3, hf3⟩ := bcell hb4
    have k0 : w4.cell? ⟨g, 0, none⟩ = some (.int .i64 ux) := (hc3 _ _ hg).trans k0
    have k1 : w4.cell? ⟨g, 1, none⟩ = some (.int .i64 uy) := (hc3 _ _ hg).trans k1
    have k2 : w4.frozen? ⟨g, 0, none⟩ = false := (hf3 _ _ hg).trans k2
    have k3 : w4.frozen? ⟨g, 1, none⟩ = false := (hf3 _ _ hg).trans k3
    have hB4 := hb3.trans (hb4.mono hb3.size)
    have hg4 : g < w4.heap.size := Nat.lt_of_lt_of_le hg hb4.size
    clear hc3 hf3 hb4 hb3 hg
    clear HBR HDT
    have hs4 := hB4.size
    obtain ⟨hc3, hf3⟩ := bcell hB4
    obtain ⟨m0, m1, m2, m3, m4, m5, m6, m7, m8, m9⟩ := HM.out
    have m2 := (hc3 _ _ (by omega)).trans m2
    have m3 := (hc3 _ _ (by omega)).trans m3
    have m6 := (hc3 _ _ (by omega)).trans m6
    have m7 := (hc3 _ _ (by omega)).trans m7
    have m8 := (hf3 _ _ (by omega)).trans m8
    have m9 := (hf3 _ _ (by omega)).trans m9
    have HS4 := hid (HSU.out.below hB4)
    have s8 := HS4.out.c8
    have f8 := HS4.out.f8
    have HDM := hid (dem_any _ s8)
    rw [hd] at HDM
    clear m0 m1 m4 m5 hc3 hf3 HM HSU
    have d1 : g ≠ sb := by omega
    have d2 : sb ≠ g := by omega
    have d3 : w.heap.size + 1 + 1 ≠ sb := by omega
    have d4 : sb ≠ w.heap.size + 1 + 1 := by omega
    have d5 : g ≠ w.heap.size + 1 + 1 := by omega
    have d6 : w.heap.size ≠ sb := by omega
    have HBF := HB2'.out.trans (hB4.mono hs2)
    have qe := eql_pt
    obtain ⟨⟨hz1, hz2⟩, hz3, hz4⟩ := hz.out
    have x1 : decide (ux = 0) = true := decide_eq_true hz1
    have x2 : decide (uy = 0) = true := decide_eq_true hz2
    have x3 : decide (vx = 0) = true := decide_eq_true hz3
    have x4 : decide (vy = 0) = true := decide_eq_true hz4
    clear hz1 hz2 hz3 hz4
    go_wp2_with (first | (go_at_call 24; (with_reducible refine HDM.out.mono ?_); rintro e w5 ⟨rfl, rfl⟩))
    (try simp only [Exit.inBlock, Exit.then])
    refine bodyPost_ret (v := pt ux uy) (by simp [results, Try.results11, go_sem, *]) rfl ?_
    exact ⟨rfl, ((HS4.out.mode _).far (by show sb ≠ w.heap.size + 1 + 1; omega) _).far (by show sb ≠ w.heap.size + 1 + 1; omega) _, gset (gset (gset (gof HBF) (Or.inr rfl) _) (Or.inl (by show w.heap.size ≤ w.heap.size + 1 + 1; omega)) _) (Or.inl (by show w.heap.size ≤ w.heap.size + 1 + 1; omega)) _⟩
set_option maxRecDepth 100000 in
set_option maxHeartbeats 4000000 in
theorem lim_ak {sb pb : Nat} {S A B H M kp al md : Int} (t px py vx vy wx wy c qx qy ux uy bx bz : Int) (w : World) (S0 : Hid (Sup w sb pb S A B H M kp al md)) (c1 : 0 ≤ c) (c2 : c ≤ 4096)
    (u1 : -4096 ≤ ux) (u2 : ux ≤ 4096) (u3 : -4096 ≤ uy) (u4 : uy ≤ 4096)
    (HC : Hid (∀ w', Below w.heap.size w w' → Calls Try.prog 16 #[.pointer (some ⟨sb, 0, none⟩), .int .i64 t, pt px py] w' fun e w'' => e = .returned (.int .i64 c) ∧ Below w'.heap.size w' w''))
    (HST : Hid (∀ w, Calls Try.prog 21 #[mo px py vx vy, pt wx wy, lim S A B H M] w fun e w' => e = .returned (mo qx qy ux uy) ∧ Below w.heap.size w w'))
    (HBR : Hid (∀ w, Calls Try.prog 23 #[mo px py vx vy, lim S A B H M] w fun e w' => e = .returned (pt bx bz) ∧ Below w.heap.size w w'))
    (hcmp : sqr ux uy ≤ c * c) (hd : demB md = true) (hz : Hid (¬ ((ux = 0 ∧ uy = 0) ∧ (vx = 0 ∧ vy = 0)))) :
    Calls Try.prog 11 #[.pointer (some ⟨sb, 0, none⟩), .int .i64 t, mo px py vx vy, pt wx wy] w fun e w' => e = .returned (pt ux uy) ∧ Sup w' sb pb S A B H M kp al md ∧ w.grownBy w' (some sb) := by
  have slt := S0.out.lt
  obtain ⟨_, s0, s1, s2, s3, s4, s5, s6, s7, s8, _, f8⟩ := S0.out
  have n1 := sq_self_nonneg ux
  have n2 := sq_self_nonneg uy
  have n3 := sq_abs_le u1 u2
  have n4 := sq_abs_le u3 u4
  have n5 := sq_self_nonneg c
  have n6 := sq_abs_le (x := c) (b := 4096) (by omega) c2
  have HDT := hid (fun w => dot_any ux uy ux uy (by omega) (by omega) (by omega) (by omega) w)
  have hsq : ux * ux + uy * uy = sqr ux uy := rfl
  rw [hsq] at HDT
  clear hsq n1 n2 n3 n4
  generalize sqr ux uy = q at *
  generalize hcc : c * c = cc at *
  have qf := field_vel
  have HB0 : Hid (Below w.heap.size w (((w.alloc (.cells #[.int .i64 px, .int .i64 py, .int .i64 vx, .int .i64 vy] 37)).alloc (.cells #[.int .i64 wx, .int .i64 wy] 35)).alloc (.cells #[.int .i64 0, .int .i64 0] 35))) := hid ((((Below.refl _ _).alloc (Nat.le_refl _) _).alloc (by simp) _).alloc (by simp <;> omega) _)
  go_enter Try.func11, Try.ntmps11
  go_upto_region 4 with (first | (go_at_call 16; (with_reducible refine (HC.out _ HB0.out).mono ?_); rintro e w2 ⟨rfl, hb⟩))
  have hsz : w.heap.size + 1 + 1 < w2.heap.size := by have := hb.size; simp at this; omega
  have HB2 := HB0.out.trans (hb.mono (by simp <;> omega))
  obtain ⟨hc, hf⟩ := bcell hb
  have m0 : w2.cell? ⟨w.heap.size, 0, none⟩ = some (.int .i64 px) := (hc _ _ (by simp <;> omega)).trans (by simp [go_sem])
  have m1 : w2.cell? ⟨w.heap.size, 1, none⟩ = some (.int .i64 py) := (hc _ _ (by simp <;> omega)).trans (by simp [go_sem])
  have m2 : w2.cell? ⟨w.heap.size, 2, none⟩ = some (.int .i64 vx) := (hc _ _ (by simp <;> omega)).trans (by simp [go_sem])
  have m3 : w2.cell? ⟨w.heap.size, 3, none⟩ = some (.int .i64 vy) := (hc _ _ (by simp <;> omega)).trans (by simp [go_sem])
  have m4 : w2.cell? ⟨w.heap.size + 1, 0, none⟩ = some (.int .i64 wx) := (hc _ _ (by simp <;> omega)).trans (by simp [go_sem])
  have m5 : w2.cell? ⟨w.heap.size + 1, 1, none⟩ = some (.int .i64 wy) := (hc _ _ (by simp <;> omega)).trans (by simp [go_sem])
  have m6 : w2.cell? ⟨w.heap.size + 1 + 1, 0, none⟩ = some (.int .i64 0) := (hc _ _ (by simp <;> omega)).trans (by simp [go_sem])
  have m7 : w2.cell? ⟨w.heap.size + 1 + 1, 1, none⟩ = some (.int .i64 0) := (hc _ _ (by simp <;> omega)).trans (by simp [go_sem])
  have m8 : w2.frozen? ⟨w.heap.size + 1 + 1, 0, none⟩ = false := (hf _ _ (by simp <;> omega)).trans (by simp [go_sem])
  have m9 : w2.frozen? ⟨w.heap.size + 1 + 1, 1, none⟩ = false := (hf _ _ (by simp <;> omega)).trans (by simp [go_sem])
  have HM := hid (And.intro m0 (And.intro m1 (And.intro m2 (And.intro m3 (And.intro m4 (And.intro m5 (And.intro m6 (And.intro m7 (And.intro m8 m9)))))))))
  clear m0 m1 m2 m3 m4 m5 m6 m7 m8 m9 hc hf hb
  have HSU := hid (S0.out.below HB2)
  have hs2 := HB2.size
  clear s0 s1 s2 s3 s4 s5 s6 s7 s8 f8
  have HB2' := hid HB2
  clear HB2
  go_cut [10] (fun s10 wq => ∃ g : Nat, s10 = .pointer (some ⟨g, 0, none⟩) ∧ g < wq.heap.size ∧ w2.heap.size ≤ g ∧ wq.cell? ⟨g, 0, none⟩ = some (.int .i64 ux) ∧ wq.cell? ⟨g, 1, none⟩ = some (.int .i64 uy) ∧ wq.frozen? ⟨g, 0, none⟩ = false ∧ wq.frozen? ⟨g, 1, none⟩ = false ∧ Below w2.heap.size w2 wq)
  case first =>
    refine wp_region_fresh 8 9 (fun _ => .cells #[.int .i64 0, .int .i64 0] 35) (by kernel_rfl) (by kernel_rfl) (by omega) (by kernel_rfl) ?_
    apply Exists.intro
    refine ⟨fun v1 kb1 => ?_, ?_⟩
    · have ks1 := kb1.size
      obtain ⟨m0, m1, m2, m3, m4, m5, _⟩ := HM.out
      obtain ⟨_, s0, s1, s2, s3, s4, _⟩ := HSU.out
      have hl0 : ∀ (z : Later v1) (o : Nat), z.val.cell? ⟨w.heap.size, o, none⟩ = w2.cell? ⟨w.heap.size, o, none⟩ := fun z o => (z.cell (by omega)).trans (kb1.cell (by show w.heap.size < w2.heap.size; omega))
      have hl1 : ∀ (z : Later v1) (o : Nat), z.val.cell? ⟨w.heap.size + 1, o, none⟩ = w2.cell? ⟨w.heap.size + 1, o, none⟩ := fun z o => (z.cell (by omega)).trans (kb1.cell (by show w.heap.size + 1 < w2.heap.size; omega))
      have hl2 : ∀ (z : Later v1) (o : Nat), z.val.cell? ⟨sb, o, none⟩ = w2.cell? ⟨sb, o, none⟩ := fun z o => (z.cell (by omega)).trans (kb1.cell (by show sb < w2.heap.size; omega))
      simp only [List.take_succ_cons, List.take_zero]
      repeat (go_big_quiet_step ((go_at_call 21; with_reducible exact calls_later (HST.out _))))
      exact wpQuiet_nil rfl
    · simp only [List.take_succ_cons, List.take_zero, List.drop_succ_cons, List.drop_zero]
      refine wpHead_new (by decide) rfl (run_alloc23 _ _ _ _ _ _) (fun g hg e1 => ?_)
      intro w' hS
      have b1 := (hS.own g _ upd_same).2
      have g1 := hS.lt (g := g) upd_same
      obtain ⟨c1, f1⟩ := block_cells b1
      have hbb := hS.below
      have q0 := c1 0
      have q1 := c1 1
      simp only [List.getElem?_toArray, List.getElem?_cons_zero, List.getElem?_cons_succ] at q0 q1
      clear c1 b1 hS e1
      simp only [Act.put, List.setIfInBounds_toArray, List.set_cons_zero, List.set_cons_succ]
      go_wp2
      go_meet
      case rel =>
        refine ⟨g, rfl, by simpa [World.setCell] using g1, by omega, ?_, ?_, ?_, ?_, ?_⟩
        · go_simp
        · go_simp
        · go_simp
        · go_simp
        · exact ((hbb.setCell hg _).setCell hg _)
  case rest =>
    obtain ⟨g, rfl, hg, hgl, k0, k1, k2, k3, hb3⟩ := hcut
    clear HST
    go_upto_region 9 with (first | (go_at_call 22; (with_reducible refine (HDT.out _).mono ?_); rintro e w4 ⟨rfl, hb4⟩))
    obtain ⟨hc3, hf3⟩ := bcell hb4
    have k0 : w4.cell? ⟨g, 0, none⟩ = some (.int .i64 ux) := (hc3 _ _ hg).trans k0
    have k1 : w4.cell? ⟨g, 1, none⟩ = some (.int .i64 uy) := (hc3 _ _ hg).trans k1
    have k2 : w4.frozen? ⟨g, 0, none⟩ = false := (hf3 _ _ hg).trans k2
    have k3 : w4.frozen? ⟨g, 1, none⟩ = false := (hf3 _ _ hg).trans k3
    have hB4 := hb3.trans (hb4.mono hb3.size)
    have hg4 : g < w4.heap.size := Nat.lt_of_lt_of_le hg hb4.size
    clear hc3 hf3 hb4 hb3 hg
    clear HBR HDT
    have hs4 := hB4.size
    obtain ⟨hc3, hf3⟩ := bcell hB4
    obtain ⟨m0, m1, m2, m3, m4, m5, m6, m7, m8, m9⟩ := HM.out
    have m2 := (hc3 _ _ (by omega)).trans m2
    have m3 := (hc3 _ _ (by omega)).trans m3
    have m6 := (hc3 _ _ (by omega)).trans m6
    have m7 := (hc3 _ _ (by omega)).trans m7
    have m8 := (hf3 _ _ (by omega)).trans m8
    have m9 := (hf3 _ _ (by omega)).trans m9
    have HS4 := hid (HSU.out.below hB4)
    have s8 := HS4.out.c8
    have f8 := HS4.out.f8
    have HDM := hid (dem_any _ s8)
    rw [hd] at HDM
    clear m0 m1 m4 m5 hc3 hf3 HM HSU
    have d1 : g ≠ sb := by omega
    have d2 : sb ≠ g := by omega
    have d3 : w.heap.size + 1 + 1 ≠ sb := by omega
    have d4 : sb ≠ w.heap.size + 1 + 1 := by omega
    have d5 : g ≠ w.heap.size + 1 + 1 := by omega
    have d6 : w.heap.size ≠ sb := by omega
    have HBF := HB2'.out.trans (hB4.mono hs2)
    have qe := eql_pt
    have CS : decide (ux = 0) = false ∨ (decide (ux = 0) = true ∧ decide (uy = 0) = false) ∨ (decide (ux = 0) = true ∧ decide (uy = 0) = true ∧ decide (vx = 0) = false) ∨ (decide (ux = 0) = true ∧ decide (uy = 0) = true ∧ decide (vx = 0) = true ∧ decide (vy = 0) = false) := by
      by_cases g1 : ux = 0
      · by_cases g2 : uy = 0
        · by_cases g3 : vx = 0
          · by_cases g4 : vy = 0
            · exact absurd ⟨⟨g1, g2⟩, g3, g4⟩ hz.out
            · exact Or.inr (Or.inr (Or.inr ⟨decide_eq_true g1, decide_eq_true g2, decide_eq_true g3, decide_eq_false g4⟩))
          · exact Or.inr (Or.inr (Or.inl ⟨decide_eq_true g1, decide_eq_true g2, decide_eq_false g3⟩))
        · exact Or.inr (Or.inl ⟨decide_eq_true g1, decide_eq_false g2⟩)
      · exact Or.inl (decide_eq_false g1)
    clear hz
    rcases CS with x1 | ⟨x1, x2⟩ | ⟨x1, x2, x3⟩ | ⟨x1, x2, x3, x4⟩
    · go_wp2_with (first | (go_at_call 24; (with_reducible refine HDM.out.mono ?_); rintro e w5 ⟨rfl, rfl⟩))
      (try simp only [Exit.inBlock, Exit.then])
      refine bodyPost_ret (v := pt ux uy) (by simp [results, Try.results11, go_sem, *]) rfl ?_
      exact ⟨rfl, (HS4.out.far (by show sb ≠ w.heap.size + 1 + 1; omega) _).far (by show sb ≠ w.heap.size + 1 + 1; omega) _, gset (gset (gof HBF) (Or.inl (by show w.heap.size ≤ w.heap.size + 1 + 1; omega)) _) (Or.inl (by show w.heap.size ≤ w.heap.size + 1 + 1; omega)) _⟩
    · go_wp2_with (first | (go_at_call 24; (with_reducible refine HDM.out.mono ?_); rintro e w5 ⟨rfl, rfl⟩))
      (try simp only [Exit.inBlock, Exit.then])
      refine bodyPost_ret (v := pt ux uy) (by simp [results, Try.results11, go_sem, *]) rfl ?_
      exact ⟨rfl, (HS4.out.far (by show sb ≠ w.heap.size + 1 + 1; omega) _).far (by show sb ≠ w.heap.size + 1 + 1; omega) _, gset (gset (gof HBF) (Or.inl (by show w.heap.size ≤ w.heap.size + 1 + 1; omega)) _) (Or.inl (by show w.heap.size ≤ w.heap.size + 1 + 1; omega)) _⟩
    · go_wp2_with (first | (go_at_call 24; (with_reducible refine HDM.out.mono ?_); rintro e w5 ⟨rfl, rfl⟩))
      (try simp only [Exit.inBlock, Exit.then])
      refine bodyPost_ret (v := pt ux uy) (by simp [results, Try.results11, go_sem, *]) rfl ?_
      exact ⟨rfl, (HS4.out.far (by show sb ≠ w.heap.size + 1 + 1; omega) _).far (by show sb ≠ w.heap.size + 1 + 1; omega) _, gset (gset (gof HBF) (Or.inl (by show w.heap.size ≤ w.heap.size + 1 + 1; omega)) _) (Or.inl (by show w.heap.size ≤ w.heap.size + 1 + 1; omega)) _⟩
    · go_wp2_with (first | (go_at_call 24; (with_reducible refine HDM.out.mono ?_); rintro e w5 ⟨rfl, rfl⟩))
      (try simp only [Exit.inBlock, Exit.then])
      refine bodyPost_ret (v := pt ux uy) (by simp [results, Try.results11, go_sem, *]) rfl ?_
      exact ⟨rfl, (HS4.out.far (by show sb ≠ w.heap.size + 1 + 1; omega) _).far (by show sb ≠ w.heap.size + 1 + 1; omega) _, gset (gset (gof HBF) (Or.inl (by show w.heap.size ≤ w.heap.size + 1 + 1; omega)) _) (Or.inl (by show w.heap.size ≤ w.heap.size + 1 + 1; omega)) _⟩
set_option maxRecDepth 100000 in
set_option maxHeartbeats 4000000 in
theorem lim_bf {sb pb : Nat} {S A B H M kp al md : Int} (t px py vx vy wx wy c qx qy ux uy bx bz : Int) (w : World) (S0 : Hid (Sup w sb pb S A B H M kp al md)) (c1 : 0 ≤ c) (c2 : c ≤ 4096)
    (u1 : -4096 ≤ ux) (u2 : ux ≤ 4096) (u3 : -4096 ≤ uy) (u4 : uy ≤ 4096)
    (HC : Hid (∀ w', Below w.heap.size w w' → Calls Try.prog 16 #[.pointer (some ⟨sb, 0, none⟩), .int .i64 t, pt px py] w' fun e w'' => e = .returned (.int .i64 c) ∧ Below w'.heap.size w' w''))
    (HST : Hid (∀ w, Calls Try.prog 21 #[mo px py vx vy, pt wx wy, lim S A B H M] w fun e w' => e = .returned (mo qx qy ux uy) ∧ Below w.heap.size w w'))
    (HBR : Hid (∀ w, Calls Try.prog 23 #[mo px py vx vy, lim S A B H M] w fun e w' => e = .returned (pt bx bz) ∧ Below w.heap.size w w'))
    (hcmp : c * c < sqr ux uy) (hd : demB md = false) :
    Calls Try.prog 11 #[.pointer (some ⟨sb, 0, none⟩), .int .i64 t, mo px py vx vy, pt wx wy] w fun e w' => e = .returned (pt bx bz) ∧ Sup w' sb pb S A B H M kp al 2 ∧ w.grownBy w' (some sb) := by
  have slt := S0.out.lt
  obtain ⟨_, s0, s1, s2, s3, s4, s5, s6, s7, s8, _, f8⟩ := S0.out
  have n1 := sq_self_nonneg ux
  have n2 := sq_self_nonneg uy
  have n3 := sq_abs_le u1 u2
  have n4 := sq_abs_le u3 u4
  have n5 := sq_self_nonneg c
  have n6 := sq_abs_le (x := c) (b := 4096) (by omega) c2
  have HDT := hid (fun w => dot_any ux uy ux uy (by omega) (by omega) (by omega) (by omega) w)
  have hsq : ux * ux + uy * uy = sqr ux uy := rfl
  rw [hsq] at HDT
  clear hsq n1 n2 n3 n4
  generalize sqr ux uy = q at *
  generalize hcc : c * c = cc at *
  have qf := field_vel
  have HB0 : Hid (Below w.heap.size w (((w.alloc (.cells #[.int .i64 px, .int .i64 py, .int .i64 vx, .int .i64 vy] 37)).alloc (.cells #[.int .i64 wx, .int .i64 wy] 35)).alloc (.cells #[.int .i64 0, .int .i64 0] 35))) := hid ((((Below.refl _ _).alloc (Nat.le_refl _) _).alloc (by simp) _).alloc (by simp <;> omega) _)
  go_enter Try.func11, Try.ntmps11
  go_upto_region 4 with (first | (go_at_call 16; (with_reducible refine (HC.out _ HB0.out).mono ?_); rintro e w2 ⟨rfl, hb⟩))
  have hsz : w.heap.size + 1 + 1 < w2.heap.size := by have := hb.size; simp at this; omega
  have HB2 := HB0.out.trans (hb.mono (by simp <;> omega))
  obtain ⟨hc, hf⟩ := bcell hb
  have m0 : w2.cell? ⟨w.heap.size, 0, none⟩ = some (.int .i64 px) := (hc _ _ (by simp <;> omega)).trans (by simp [go_sem])
  have m1 : w2.cell? ⟨w.heap.size, 1, none⟩ = some (.int .i64 py) := (hc _ _ (by simp <;> omega)).trans (by simp [go_sem])
  have m2 : w2.cell? ⟨w.heap.size, 2, none⟩ = some (.int .i64 vx) := (hc _ _ (by simp <;> omega)).trans (by simp [go_sem])
  have m3 : w2.cell? ⟨w.heap.size, 3, none⟩ = some (.int .i64 vy) := (hc _ _ (by simp <;> omega)).trans (by simp [go_sem])
  have m4 : w2.cell? ⟨w.heap.size + 1, 0, none⟩ = some (.int .i64 wx) := (hc _ _ (by simp <;> omega)).trans (by simp [go_sem])
  have m5 : w2.cell? ⟨w.heap.size + 1, 1, none⟩ = some (.int .i64 wy) := (hc _ _ (by simp <;> omega)).trans (by simp [go_sem])
  have m6 : w2.cell? ⟨w.heap.size + 1 + 1, 0, none⟩ = some (.int .i64 0) := (hc _ _ (by simp <;> omega)).trans (by simp [go_sem])
  have m7 : w2.cell? ⟨w.heap.size + 1 + 1, 1, none⟩ = some (.int .i64 0) := (hc _ _ (by simp <;> omega)).trans (by simp [go_sem])
  have m8 : w2.frozen? ⟨w.heap.size + 1 + 1, 0, none⟩ = false := (hf _ _ (by simp <;> omega)).trans (by simp [go_sem])
  have m9 : w2.frozen? ⟨w.heap.size + 1 + 1, 1, none⟩ = false := (hf _ _ (by simp <;> omega)).trans (by simp [go_sem])
  have HM := hid (And.intro m0 (And.intro m1 (And.intro m2 (And.intro m3 (And.intro m4 (And.intro m5 (And.intro m6 (And.intro m7 (And.intro m8 m9)))))))))
  clear m0 m1 m2 m3 m4 m5 m6 m7 m8 m9 hc hf hb
  have HSU := hid (S0.out.below HB2)
  have hs2 := HB2.size
  clear s0 s1 s2 s3 s4 s5 s6 s7 s8 f8
  have HB2' := hid HB2
  clear HB2
  go_cut [10] (fun s10 wq => ∃ g : Nat, s10 = .pointer (some ⟨g, 0, none⟩) ∧ g < wq.heap.size ∧ w2.heap.size ≤ g ∧ wq.cell? ⟨g, 0, none⟩ = some (.int .i64 ux) ∧ wq.cell? ⟨g, 1, none⟩ = some (.int .i64 uy) ∧ wq.frozen? ⟨g, 0, none⟩ = false ∧ wq.frozen? ⟨g, 1, none⟩ = false ∧ Below w2.heap.size w2 wq)
  case first =>
    refine wp_region_fresh 8 9 (fun _ => .cells #[.int .i64 0, .int .i64 0] 35) (by kernel_rfl) (by kernel_rfl) (by omega) (by kernel_rfl) ?_
    apply Exists.intro
    refine ⟨fun v1 kb1 => ?_, ?_⟩
    · have ks1 := kb1.size
      obtain ⟨m0, m1, m2, m3, m4, m5, _⟩ := HM.out
      obtain ⟨_, s0, s1, s2, s3, s4, _⟩ := HSU.out
      have hl0 : ∀ (z : Later v1) (o : Nat), z.val.cell? ⟨w.heap.size, o, none⟩ = w2.cell? ⟨w.heap.size, o, none⟩ := fun z o => (z.cell (by omega)).trans (kb1.cell (by show w.heap.size < w2.heap.size; omega))
      have hl1 : ∀ (z : Later v1) (o : Nat), z.val.cell? ⟨w.heap.size + 1, o, none⟩ = w2.cell? ⟨w.heap.size + 1, o, none⟩ := fun z o => (z.cell (by omega)).trans (kb1.cell (by show w.heap.size + 1 < w2.heap.size; omega))
      have hl2 : ∀ (z : Later v1) (o : Nat), z.val.cell? ⟨sb, o, none⟩ = w2.cell? ⟨sb, o, none⟩ := fun z o => (z.cell (by omega)).trans (kb1.cell (by show sb < w2.heap.size; omega))
      simp only [List.take_succ_cons, List.take_zero]
      repeat (go_big_quiet_step ((go_at_call 21; with_reducible exact calls_later (HST.out _))))
      exact wpQuiet_nil rfl
    · simp only [List.take_succ_cons, List.take_zero, List.drop_succ_cons, List.drop_zero]
      refine wpHead_new (by decide) rfl (run_alloc23 _ _ _ _ _ _) (fun g hg e1 => ?_)
      intro w' hS
      have b1 := (hS.own g _ upd_same).2
      have g1 := hS.lt (g := g) upd_same
      obtain ⟨c1, f1⟩ := block_cells b1
      have hbb := hS.below
      have q0 := c1 0
      have q1 := c1 1
      simp only [List.getElem?_toArray, List.getElem?_cons_zero, List.getElem?_cons_succ] at q0 q1
      clear c1 b1 hS e1
      simp only [Act.put, List.setIfInBounds_toArray, List.set_cons_zero, List.set_cons_succ]
      go_wp2
      go_meet
      case rel =>
        refine ⟨g, rfl, by simpa [World.setCell] using g1, by omega, ?_, ?_, ?_, ?_, ?_⟩
        · go_simp
        · go_simp
        · go_simp
        · go_simp
        · exact ((hbb.setCell hg _).setCell hg _)
  case rest =>
    obtain ⟨g, rfl, hg, hgl, k0, k1, k2, k3, hb3⟩ := hcut
    clear HST
    go_upto_region 7 with (first | (go_at_call 22; (with_reducible refine (HDT.out _).mono ?_); rintro e w4 ⟨rfl, hb4⟩))
    obtain ⟨hc3, hf3⟩ := bcell hb4
    have k0 : w4.cell? ⟨g, 0, none⟩ = some (.int .i64 ux) := (hc3 _ _ hg).trans k0
    have k1 : w4.cell? ⟨g, 1, none⟩ = some (.int .i64 uy) := (hc3 _ _ hg).trans k1
    have k2 : w4.frozen? ⟨g, 0, none⟩ = false := (hf3 _ _ hg).trans k2
    have k3 : w4.frozen? ⟨g, 1, none⟩ = false := (hf3 _ _ hg).trans k3
    have hB4 := hb3.trans (hb4.mono hb3.size)
    have hg4 : g < w4.heap.size := Nat.lt_of_lt_of_le hg hb4.size
    clear hc3 hf3 hb4 hb3 hg
    go_cut [] (fun wq => g < wq.heap.size ∧ wq.cell? ⟨g, 0, none⟩ = some (.int .i64 bx) ∧ wq.cell? ⟨g, 1, none⟩ = some (.int .i64 bz) ∧ wq.frozen? ⟨g, 0, none⟩ = false ∧ wq.frozen? ⟨g, 1, none⟩ = false ∧ Below w2.heap.size w2 wq)
    case first =>
      obtain ⟨m0, m1, m2, m3, m4, m5, _⟩ := HM.out
      obtain ⟨_, s0, s1, s2, s3, s4, _⟩ := HSU.out
      have hs4 := hB4.size
      have hl0 : ∀ (z : Later w4) (o : Nat), z.val.cell? ⟨w.heap.size, o, none⟩ = w2.cell? ⟨w.heap.size, o, none⟩ := fun z o => (z.cell (by omega)).trans (hB4.cell (by show w.heap.size < w2.heap.size; omega))
      have hl2 : ∀ (z : Later w4) (o : Nat), z.val.cell? ⟨sb, o, none⟩ = w2.cell? ⟨sb, o, none⟩ := fun z o => (z.cell (by omega)).trans (hB4.cell (by show sb < w2.heap.size; omega))
      refine wp_region_later_tail 6 (Below.refl _ _) (by kernel_rfl) (by kernel_rfl) ?_
      simp only [List.take_succ_cons, List.take_zero, List.drop_succ_cons, List.drop_zero]
      repeat (go_big_quiet_step ((go_at_call 23; with_reducible exact calls_later (HBR.out _))))
      refine wpQuiet_nil ?_
      intro _ hw'
      obtain ⟨y0, hw''⟩ := hw'
      subst hw''
      have z0 : y0.val.cell? ⟨g, 0, none⟩ = some (.int .i64 ux) := (y0.cell hg4).trans k0
      have z1 : y0.val.cell? ⟨g, 1, none⟩ = some (.int .i64 uy) := (y0.cell hg4).trans k1
      have z2 : y0.val.frozen? ⟨g, 0, none⟩ = false := (y0.frz hg4).trans k2
      have z3 : y0.val.frozen? ⟨g, 1, none⟩ = false := (y0.frz hg4).trans k3
      clear hl0 hl2
      go_wp2_with fail
      go_meet
      case rel =>
        refine ⟨by rw [set_sz, set_sz]; exact Nat.lt_of_lt_of_le hg4 y0.ok.size, ?_, ?_, ?_, ?_, ?_⟩
        · go_simp
        · go_simp
        · go_simp
        · go_simp
        · exact ((hB4.trans (y0.ok.mono hs4)).setCell hgl _).setCell hgl _
    case rest =>
    clear hg4 k0 k1 k2 k3 hB4
    obtain ⟨hg4, k0, k1, k2, k3, hB4⟩ := hcut
    rename_i w4
    go_upto_region 9 with fail
    clear HBR HDT
    have hs4 := hB4.size
    obtain ⟨hc3, hf3⟩ := bcell hB4
    obtain ⟨m0, m1, m2, m3, m4, m5, m6, m7, m8, m9⟩ := HM.out
    have m2 := (hc3 _ _ (by omega)).trans m2
    have m3 := (hc3 _ _ (by omega)).trans m3
    have m6 := (hc3 _ _ (by omega)).trans m6
    have m7 := (hc3 _ _ (by omega)).trans m7
    have m8 := (hf3 _ _ (by omega)).trans m8
    have m9 := (hf3 _ _ (by omega)).trans m9
    have HS4 := hid (HSU.out.below hB4)
    have s8 := HS4.out.c8
    have f8 := HS4.out.f8
    have HDM := hid (dem_any _ s8)
    rw [hd] at HDM
    clear m0 m1 m4 m5 hc3 hf3 HM HSU
    have d1 : g ≠ sb := by omega
    have d2 : sb ≠ g := by omega
    have d3 : w.heap.size + 1 + 1 ≠ sb := by omega
    have d4 : sb ≠ w.heap.size + 1 + 1 := by omega
    have d5 : g ≠ w.heap.size + 1 + 1 := by omega
    have d6 : w.heap.size ≠ sb := by omega
    have HBF := HB2'.out.trans (hB4.mono hs2)
    have qe := eql_pt
    go_wp2_with (first | (go_at_call 24; (with_reducible refine HDM.out.mono ?_); rintro e w5 ⟨rfl, rfl⟩))
    (try simp only [Exit.inBlock, Exit.then])
    refine bodyPost_ret (v := pt bx bz) (by simp [results, Try.results11, go_sem, *]) rfl ?_
    exact ⟨rfl, ((HS4.out.mode _).far (by show sb ≠ w.heap.size + 1 + 1; omega) _).far (by show sb ≠ w.heap.size + 1 + 1; omega) _, gset (gset (gset (gof HBF) (Or.inr rfl) _) (Or.inl (by show w.heap.size ≤ w.heap.size + 1 + 1; omega)) _) (Or.inl (by show w.heap.size ≤ w.heap.size + 1 + 1; omega)) _⟩
set_option maxRecDepth 100000 in
set_option maxHeartbeats 4000000 in
theorem lim_bs {sb pb : Nat} {S A B H M kp al md : Int} (t px py vx vy wx wy c qx qy ux uy bx bz : Int) (w : World) (S0 : Hid (Sup w sb pb S A B H M kp al md)) (c1 : 0 ≤ c) (c2 : c ≤ 4096)
    (u1 : -4096 ≤ ux) (u2 : ux ≤ 4096) (u3 : -4096 ≤ uy) (u4 : uy ≤ 4096)
    (HC : Hid (∀ w', Below w.heap.size w w' → Calls Try.prog 16 #[.pointer (some ⟨sb, 0, none⟩), .int .i64 t, pt px py] w' fun e w'' => e = .returned (.int .i64 c) ∧ Below w'.heap.size w' w''))
    (HST : Hid (∀ w, Calls Try.prog 21 #[mo px py vx vy, pt wx wy, lim S A B H M] w fun e w' => e = .returned (mo qx qy ux uy) ∧ Below w.heap.size w w'))
    (HBR : Hid (∀ w, Calls Try.prog 23 #[mo px py vx vy, lim S A B H M] w fun e w' => e = .returned (pt bx bz) ∧ Below w.heap.size w w'))
    (hcmp : c * c < sqr ux uy) (hd : demB md = true) (hz : Hid ((bx = 0 ∧ bz = 0) ∧ (vx = 0 ∧ vy = 0))) :
    Calls Try.prog 11 #[.pointer (some ⟨sb, 0, none⟩), .int .i64 t, mo px py vx vy, pt wx wy] w fun e w' => e = .returned (pt bx bz) ∧ Sup w' sb pb S A B H M kp al 4 ∧ w.grownBy w' (some sb) := by
  have slt := S0.out.lt
  obtain ⟨_, s0, s1, s2, s3, s4, s5, s6, s7, s8, _, f8⟩ := S0.out
  have n1 := sq_self_nonneg ux
  have n2 := sq_self_nonneg uy
  have n3 := sq_abs_le u1 u2
  have n4 := sq_abs_le u3 u4
  have n5 := sq_self_nonneg c
  have n6 := sq_abs_le (x := c) (b := 4096) (by omega) c2
  have HDT := hid (fun w => dot_any ux uy ux uy (by omega) (by omega) (by omega) (by omega) w)
  have hsq : ux * ux + uy * uy = sqr ux uy := rfl
  rw [hsq] at HDT
  clear hsq n1 n2 n3 n4
  generalize sqr ux uy = q at *
  generalize hcc : c * c = cc at *
  have qf := field_vel
  have HB0 : Hid (Below w.heap.size w (((w.alloc (.cells #[.int .i64 px, .int .i64 py, .int .i64 vx, .int .i64 vy] 37)).alloc (.cells #[.int .i64 wx, .int .i64 wy] 35)).alloc (.cells #[.int .i64 0, .int .i64 0] 35))) := hid ((((Below.refl _ _).alloc (Nat.le_refl _) _).alloc (by simp) _).alloc (by simp <;> omega) _)
  go_enter Try.func11, Try.ntmps11
  go_upto_region 4 with (first | (go_at_call 16; (with_reducible refine (HC.out _ HB0.out).mono ?_); rintro e w2 ⟨rfl, hb⟩))
  have hsz : w.heap.size + 1 + 1 < w2.heap.size := by have := hb.size; simp at this; omega
  have HB2 := HB0.out.trans (hb.mono (by simp <;> omega))
  obtain ⟨hc, hf⟩ := bcell hb
  have m0 : w2.cell? ⟨w.heap.size, 0, none⟩ = some (.int .i64 px) := (hc _ _ (by simp <;> omega)).trans (by simp [go_sem])
  have m1 : w2.cell? ⟨w.heap.size, 1, none⟩ = some (.int .i64 py) := (hc _ _ (by simp <;> omega)).trans (by simp [go_sem])
  have m2 : w2.cell? ⟨w.heap.size, 2, none⟩ = some (.int .i64 vx) := (hc _ _ (by simp <;> omega)).trans (by simp [go_sem])
  have m3 : w2.cell? ⟨w.heap.size, 3, none⟩ = some (.int .i64 vy) := (hc _ _ (by simp <;> omega)).trans (by simp [go_sem])
  have m4 : w2.cell? ⟨w.heap.size + 1, 0, none⟩ = some (.int .i64 wx) := (hc _ _ (by simp <;> omega)).trans (by simp [go_sem])
  have m5 : w2.cell? ⟨w.heap.size + 1, 1, none⟩ = some (.int .i64 wy) := (hc _ _ (by simp <;> omega)).trans (by simp [go_sem])
  have m6 : w2.cell? ⟨w.heap.size + 1 + 1, 0, none⟩ = some (.int .i64 0) := (hc _ _ (by simp <;> omega)).trans (by simp [go_sem])
  have m7 : w2.cell? ⟨w.heap.size + 1 + 1, 1, none⟩ = some (.int .i64 0) := (hc _ _ (by simp <;> omega)).trans (by simp [go_sem])
  have m8 : w2.frozen? ⟨w.heap.size + 1 + 1, 0, none⟩ = false := (hf _ _ (by simp <;> omega)).trans (by simp [go_sem])
  have m9 : w2.frozen? ⟨w.heap.size + 1 + 1, 1, none⟩ = false := (hf _ _ (by simp <;> omega)).trans (by simp [go_sem])
  have HM := hid (And.intro m0 (And.intro m1 (And.intro m2 (And.intro m3 (And.intro m4 (And.intro m5 (And.intro m6 (And.intro m7 (And.intro m8 m9)))))))))
  clear m0 m1 m2 m3 m4 m5 m6 m7 m8 m9 hc hf hb
  have HSU := hid (S0.out.below HB2)
  have hs2 := HB2.size
  clear s0 s1 s2 s3 s4 s5 s6 s7 s8 f8
  have HB2' := hid HB2
  clear HB2
  go_cut [10] (fun s10 wq => ∃ g : Nat, s10 = .pointer (some ⟨g, 0, none⟩) ∧ g < wq.heap.size ∧ w2.heap.size ≤ g ∧ wq.cell? ⟨g, 0, none⟩ = some (.int .i64 ux) ∧ wq.cell? ⟨g, 1, none⟩ = some (.int .i64 uy) ∧ wq.frozen? ⟨g, 0, none⟩ = false ∧ wq.frozen? ⟨g, 1, none⟩ = false ∧ Below w2.heap.size w2 wq)
  case first =>
    refine wp_region_fresh 8 9 (fun _ => .cells #[.int .i64 0, .int .i64 0] 35) (by kernel_rfl) (by kernel_rfl) (by omega) (by kernel_rfl) ?_
    apply Exists.intro
    refine ⟨fun v1 kb1 => ?_, ?_⟩
    · have ks1 := kb1.size
      obtain ⟨m0, m1, m2, m3, m4, m5, _⟩ := HM.out
      obtain ⟨_, s0, s1, s2, s3, s4, _⟩ := HSU.out
      have hl0 : ∀ (z : Later v1) (o : Nat), z.val.cell? ⟨w.heap.size, o, none⟩ = w2.cell? ⟨w.heap.size, o, none⟩ := fun z o => (z.cell (by omega)).trans (kb1.cell (by show w.heap.size < w2.heap.size; omega))
      have hl1 : ∀ (z : Later v1) (o : Nat), z.val.cell? ⟨w.heap.size + 1, o, none⟩ = w2.cell? ⟨w.heap.size + 1, o, none⟩ := fun z o => (z.cell (by omega)).trans (kb1.cell (by show w.heap.size + 1 < w2.heap.size; omega))
      have hl2 : ∀ (z : Later v1) (o : Nat), z.val.cell? ⟨sb, o, none⟩ = w2.cell? ⟨sb, o, none⟩ := fun z o => (z.cell (by omega)).trans (kb1.cell (by show sb < w2.heap.size; omega))
      simp only [List.take_succ_cons, List.take_zero]
      repeat (go_big_quiet_step ((go_at_call 21; with_reducible exact calls_later (HST.out _))))
      exact wpQuiet_nil rfl
    · simp only [List.take_succ_cons, List.take_zero, List.drop_succ_cons, List.drop_zero]
      refine wpHead_new (by decide) rfl (run_alloc23 _ _ _ _ _ _) (fun g hg e1 => ?_)
      intro w' hS
      have b1 := (hS.own g _ upd_same).2
      have g1 := hS.lt (g := g) upd_same
      obtain ⟨c1, f1⟩ := block_cells b1
      have hbb := hS.below
      have q0 := c1 0
      have q1 := c1 1
      simp only [List.getElem?_toArray, List.getElem?_cons_zero, List.getElem?_cons_succ] at q0 q1
      clear c1 b1 hS e1
      simp only [Act.put, List.setIfInBounds_toArray, List.set_cons_zero, List.set_cons_succ]
      go_wp2
      go_meet
      case rel =>
        refine ⟨g, rfl, by simpa [World.setCell] using g1, by omega, ?_, ?_, ?_, ?_, ?_⟩
        · go_simp
        · go_simp
        · go_simp
        · go_simp
        · exact ((hbb.setCell hg _).setCell hg _)
  case rest =>
    obtain ⟨g, rfl, hg, hgl, k0, k1, k2, k3, hb3⟩ := hcut
    clear HST
    go_upto_region 7 with (first | (go_at_call 22; (with_reducible refine (HDT.out _).mono ?_); rintro e w4 ⟨rfl, hb4⟩))
    obtain ⟨hc3, hf3⟩ := bcell hb4
    have k0 : w4.cell? ⟨g, 0, none⟩ = some (.int .i64 ux) := (hc3 _ _ hg).trans k0
    have k1 : w4.cell? ⟨g, 1, none⟩ = some (.int .i64 uy) := (hc3 _ _ hg).trans k1
    have k2 : w4.frozen? ⟨g, 0, none⟩ = false := (hf3 _ _ hg).trans k2
    have k3 : w4.frozen? ⟨g, 1, none⟩ = false := (hf3 _ _ hg).trans k3
    have hB4 := hb3.trans (hb4.mono hb3.size)
    have hg4 : g < w4.heap.size := Nat.lt_of_lt_of_le hg hb4.size
    clear hc3 hf3 hb4 hb3 hg
    go_cut [] (fun wq => g < wq.heap.size ∧ wq.cell? ⟨g, 0, none⟩ = some (.int .i64 bx) ∧ wq.cell? ⟨g, 1, none⟩ = some (.int .i64 bz) ∧ wq.frozen? ⟨g, 0, none⟩ = false ∧ wq.frozen? ⟨g, 1, none⟩ = false ∧ Below w2.heap.size w2 wq)
    case first =>
      obtain ⟨m0, m1, m2, m3, m4, m5, _⟩ := HM.out
      obtain ⟨_, s0, s1, s2, s3, s4, _⟩ := HSU.out
      have hs4 := hB4.size
      have hl0 : ∀ (z : Later w4) (o : Nat), z.val.cell? ⟨w.heap.size, o, none⟩ = w2.cell? ⟨w.heap.size, o, none⟩ := fun z o => (z.cell (by omega)).trans (hB4.cell (by show w.heap.size < w2.heap.size; omega))
      have hl2 : ∀ (z : Later w4) (o : Nat), z.val.cell? ⟨sb, o, none⟩ = w2.cell? ⟨sb, o, none⟩ := fun z o => (z.cell (by omega)).trans (hB4.cell (by show sb < w2.heap.size; omega))
      refine wp_region_later_tail 6 (Below.refl _ _) (by kernel_rfl) (by kernel_rfl) ?_
      simp only [List.take_succ_cons, List.take_zero, List.drop_succ_cons, List.drop_zero]
      repeat (go_big_quiet_step ((go_at_call 23; with_reducible exact calls_later (HBR.out _))))
      refine wpQuiet_nil ?_
      intro _ hw'
      obtain ⟨y0, hw''⟩ := hw'
      subst hw''
      have z0 : y0.val.cell? ⟨g, 0, none⟩ = some (.int .i64 ux) := (y0.cell hg4).trans k0
      have z1 : y0.val.cell? ⟨g, 1, none⟩ = some (.int .i64 uy) := (y0.cell hg4).trans k1
      have z2 : y0.val.frozen? ⟨g, 0, none⟩ = false := (y0.frz hg4).trans k2
      have z3 : y0.val.frozen? ⟨g, 1, none⟩ = false := (y0.frz hg4).trans k3
      clear hl0 hl2
      go_wp2_with fail
      go_meet
      case rel =>
        refine ⟨by rw [set_sz, set_sz]; exact Nat.lt_of_lt_of_le hg4 y0.ok.size, ?_, ?_, ?_, ?_, ?_⟩
        · go_simp
        · go_simp
        · go_simp
        · go_simp
        · exact ((hB4.trans (y0.ok.mono hs4)).setCell hgl _).setCell hgl _
    case rest =>
    clear hg4 k0 k1 k2 k3 hB4
    obtain ⟨hg4, k0, k1, k2, k3, hB4⟩ := hcut
    rename_i w4
    go_upto_region 9 with fail
    clear HBR HDT
    have hs4 := hB4.size
    obtain ⟨hc3, hf3⟩ := bcell hB4
    obtain ⟨m0, m1, m2, m3, m4, m5, m6, m7, m8, m9⟩ := HM.out
    have m2 := (hc3 _ _ (by omega)).trans m2
    have m3 := (hc3 _ _ (by omega)).trans m3
    have m6 := (hc3 _ _ (by omega)).trans m6
    have m7 := (hc3 _ _ (by omega)).trans m7
    have m8 := (hf3 _ _ (by omega)).trans m8
    have m9 := (hf3 _ _ (by omega)).trans m9
    have HS4 := hid (HSU.out.below hB4)
    have s8 := HS4.out.c8
    have f8 := HS4.out.f8
    have HDM := hid (dem_any _ s8)
    rw [hd] at HDM
    clear m0 m1 m4 m5 hc3 hf3 HM HSU
    have d1 : g ≠ sb := by omega
    have d2 : sb ≠ g := by omega
    have d3 : w.heap.size + 1 + 1 ≠ sb := by omega
    have d4 : sb ≠ w.heap.size + 1 + 1 := by omega
    have d5 : g ≠ w.heap.size + 1 + 1 := by omega
    have d6 : w.heap.size ≠ sb := by omega
    have HBF := HB2'.out.trans (hB4.mono hs2)
    have qe := eql_pt
    obtain ⟨⟨hz1, hz2⟩, hz3, hz4⟩ := hz.out
    have x1 : decide (bx = 0) = true := decide_eq_true hz1
    have x2 : decide (bz = 0) = true := decide_eq_true hz2
    have x3 : decide (vx = 0) = true := decide_eq_true hz3
    have x4 : decide (vy = 0) = true := decide_eq_true hz4
    clear hz1 hz2 hz3 hz4
    go_wp2_with (first | (go_at_call 24; (with_reducible refine HDM.out.mono ?_); rintro e w5 ⟨rfl, rfl⟩))
    (try simp only [Exit.inBlock, Exit.then])
    refine bodyPost_ret (v := pt bx bz) (by simp [results, Try.results11, go_sem, *]) rfl ?_
    exact ⟨rfl, ((HS4.out.mode _).far (by show sb ≠ w.heap.size + 1 + 1; omega) _).far (by show sb ≠ w.heap.size + 1 + 1; omega) _, gset (gset (gset (gof HBF) (Or.inr rfl) _) (Or.inl (by show w.heap.size ≤ w.heap.size + 1 + 1; omega)) _) (Or.inl (by show w.heap.size ≤ w.heap.size + 1 + 1; omega)) _⟩
set_option maxRecDepth 100000 in
set_option maxHeartbeats 4000000 in
theorem lim_bk {sb pb : Nat} {S A B H M kp al md : Int} (t px py vx vy wx wy c qx qy ux uy bx bz : Int) (w : World) (S0 : Hid (Sup w sb pb S A B H M kp al md)) (c1 : 0 ≤ c) (c2 : c ≤ 4096)
    (u1 : -4096 ≤ ux) (u2 : ux ≤ 4096) (u3 : -4096 ≤ uy) (u4 : uy ≤ 4096)
    (HC : Hid (∀ w', Below w.heap.size w w' → Calls Try.prog 16 #[.pointer (some ⟨sb, 0, none⟩), .int .i64 t, pt px py] w' fun e w'' => e = .returned (.int .i64 c) ∧ Below w'.heap.size w' w''))
    (HST : Hid (∀ w, Calls Try.prog 21 #[mo px py vx vy, pt wx wy, lim S A B H M] w fun e w' => e = .returned (mo qx qy ux uy) ∧ Below w.heap.size w w'))
    (HBR : Hid (∀ w, Calls Try.prog 23 #[mo px py vx vy, lim S A B H M] w fun e w' => e = .returned (pt bx bz) ∧ Below w.heap.size w w'))
    (hcmp : c * c < sqr ux uy) (hd : demB md = true) (hz : Hid (¬ ((bx = 0 ∧ bz = 0) ∧ (vx = 0 ∧ vy = 0)))) :
    Calls Try.prog 11 #[.pointer (some ⟨sb, 0, none⟩), .int .i64 t, mo px py vx vy, pt wx wy] w fun e w' => e = .returned (pt bx bz) ∧ Sup w' sb pb S A B H M kp al md ∧ w.grownBy w' (some sb) := by
  have slt := S0.out.lt
  obtain ⟨_, s0, s1, s2, s3, s4, s5, s6, s7, s8, _, f8⟩ := S0.out
  have n1 := sq_self_nonneg ux
  have n2 := sq_self_nonneg uy
  have n3 := sq_abs_le u1 u2
  have n4 := sq_abs_le u3 u4
  have n5 := sq_self_nonneg c
  have n6 := sq_abs_le (x := c) (b := 4096) (by omega) c2
  have HDT := hid (fun w => dot_any ux uy ux uy (by omega) (by omega) (by omega) (by omega) w)
  have hsq : ux * ux + uy * uy = sqr ux uy := rfl
  rw [hsq] at HDT
  clear hsq n1 n2 n3 n4
  generalize sqr ux uy = q at *
  generalize hcc : c * c = cc at *
  have qf := field_vel
  have HB0 : Hid (Below w.heap.size w (((w.alloc (.cells #[.int .i64 px, .int .i64 py, .int .i64 vx, .int .i64 vy] 37)).alloc (.cells #[.int .i64 wx, .int .i64 wy] 35)).alloc (.cells #[.int .i64 0, .int .i64 0] 35))) := hid ((((Below.refl _ _).alloc (Nat.le_refl _) _).alloc (by simp) _).alloc (by simp <;> omega) _)
  go_enter Try.func11, Try.ntmps11
  go_upto_region 4 with (first | (go_at_call 16; (with_reducible refine (HC.out _ HB0.out).mono ?_); rintro e w2 ⟨rfl, hb⟩))
  have hsz : w.heap.size + 1 + 1 < w2.heap.size := by have := hb.size; simp at this; omega
  have HB2 := HB0.out.trans (hb.mono (by simp <;> omega))
  obtain ⟨hc, hf⟩ := bcell hb
  have m0 : w2.cell? ⟨w.heap.size, 0, none⟩ = some (.int .i64 px) := (hc _ _ (by simp <;> omega)).trans (by simp [go_sem])
  have m1 : w2.cell? ⟨w.heap.size, 1, none⟩ = some (.int .i64 py) := (hc _ _ (by simp <;> omega)).trans (by simp [go_sem])
  have m2 : w2.cell? ⟨w.heap.size, 2, none⟩ = some (.int .i64 vx) := (hc _ _ (by simp <;> omega)).trans (by simp [go_sem])
  have m3 : w2.cell? ⟨w.heap.size, 3, none⟩ = some (.int .i64 vy) := (hc _ _ (by simp <;> omega)).trans (by simp [go_sem])
  have m4 : w2.cell? ⟨w.heap.size + 1, 0, none⟩ = some (.int .i64 wx) := (hc _ _ (by simp <;> omega)).trans (by simp [go_sem])
  have m5 : w2.cell? ⟨w.heap.size + 1, 1, none⟩ = some (.int .i64 wy) := (hc _ _ (by simp <;> omega)).trans (by simp [go_sem])
  have m6 : w2.cell? ⟨w.heap.size + 1 + 1, 0, none⟩ = some (.int .i64 0) := (hc _ _ (by simp <;> omega)).trans (by simp [go_sem])
  have m7 : w2.cell? ⟨w.heap.size + 1 + 1, 1, none⟩ = some (.int .i64 0) := (hc _ _ (by simp <;> omega)).trans (by simp [go_sem])
  have m8 : w2.frozen? ⟨w.heap.size + 1 + 1, 0, none⟩ = false := (hf _ _ (by simp <;> omega)).trans (by simp [go_sem])
  have m9 : w2.frozen? ⟨w.heap.size + 1 + 1, 1, none⟩ = false := (hf _ _ (by simp <;> omega)).trans (by simp [go_sem])
  have HM := hid (And.intro m0 (And.intro m1 (And.intro m2 (And.intro m3 (And.intro m4 (And.intro m5 (And.intro m6 (And.intro m7 (And.intro m8 m9)))))))))
  clear m0 m1 m2 m3 m4 m5 m6 m7 m8 m9 hc hf hb
  have HSU := hid (S0.out.below HB2)
  have hs2 := HB2.size
  clear s0 s1 s2 s3 s4 s5 s6 s7 s8 f8
  have HB2' := hid HB2
  clear HB2
  go_cut [10] (fun s10 wq => ∃ g : Nat, s10 = .pointer (some ⟨g, 0, none⟩) ∧ g < wq.heap.size ∧ w2.heap.size ≤ g ∧ wq.cell? ⟨g, 0, none⟩ = some (.int .i64 ux) ∧ wq.cell? ⟨g, 1, none⟩ = some (.int .i64 uy) ∧ wq.frozen? ⟨g, 0, none⟩ = false ∧ wq.frozen? ⟨g, 1, none⟩ = false ∧ Below w2.heap.size w2 wq)
  case first =>
    refine wp_region_fresh 8 9 (fun _ => .cells #[.int .i64 0, .int .i64 0] 35) (by kernel_rfl) (by kernel_rfl) (by omega) (by kernel_rfl) ?_
    apply Exists.intro
    refine ⟨fun v1 kb1 => ?_, ?_⟩
    · have ks1 := kb1.size
      obtain ⟨m0, m1, m2, m3, m4, m5, _⟩ := HM.out
      obtain ⟨_, s0, s1, s2, s3, s4, _⟩ := HSU.out
      have hl0 : ∀ (z : Later v1) (o : Nat), z.val.cell? ⟨w.heap.size, o, none⟩ = w2.cell? ⟨w.heap.size, o, none⟩ := fun z o => (z.cell (by omega)).trans (kb1.cell (by show w.heap.size < w2.heap.size; omega))
      have hl1 : ∀ (z : Later v1) (o : Nat), z.val.cell? ⟨w.heap.size + 1, o, none⟩ = w2.cell? ⟨w.heap.size + 1, o, none⟩ := fun z o => (z.cell (by omega)).trans (kb1.cell (by show w.heap.size + 1 < w2.heap.size; omega))
      have hl2 : ∀ (z : Later v1) (o : Nat), z.val.cell? ⟨sb, o, none⟩ = w2.cell? ⟨sb, o, none⟩ := fun z o => (z.cell (by omega)).trans (kb1.cell (by show sb < w2.heap.size; omega))
      simp only [List.take_succ_cons, List.take_zero]
      repeat (go_big_quiet_step ((go_at_call 21; with_reducible exact calls_later (HST.out _))))
      exact wpQuiet_nil rfl
    · simp only [List.take_succ_cons, List.take_zero, List.drop_succ_cons, List.drop_zero]
      refine wpHead_new (by decide) rfl (run_alloc23 _ _ _ _ _ _) (fun g hg e1 => ?_)
      intro w' hS
      have b1 := (hS.own g _ upd_same).2
      have g1 := hS.lt (g := g) upd_same
      obtain ⟨c1, f1⟩ := block_cells b1
      have hbb := hS.below
      have q0 := c1 0
      have q1 := c1 1
      simp only [List.getElem?_toArray, List.getElem?_cons_zero, List.getElem?_cons_succ] at q0 q1
      clear c1 b1 hS e1
      simp only [Act.put, List.setIfInBounds_toArray, List.set_cons_zero, List.set_cons_succ]
      go_wp2
      go_meet
      case rel =>
        refine ⟨g, rfl, by simpa [World.setCell] using g1, by omega, ?_, ?_, ?_, ?_, ?_⟩
        · go_simp
        · go_simp
        · go_simp
        · go_simp
        · exact ((hbb.setCell hg _).setCell hg _)
  case rest =>
    obtain ⟨g, rfl, hg, hgl, k0, k1, k2, k3, hb3⟩ := hcut
    clear HST
    go_upto_region 7 with (first | (go_at_call 22; (with_reducible refine (HDT.out _).mono ?_); rintro e w4 ⟨rfl, hb4⟩))
    obtain ⟨hc3, hf3⟩ := bcell hb4
    have k0 : w4.cell? ⟨g, 0, none⟩ = some (.int .i64 ux) := (hc3 _ _ hg).trans k0
    have k1 : w4.cell? ⟨g, 1, none⟩ = some (.int .i64 uy) := (hc3 _ _ hg).trans k1
    have k2 : w4.frozen? ⟨g, 0, none⟩ = false := (hf3 _ _ hg).trans k2
    have k3 : w4.frozen? ⟨g, 1, none⟩ = false := (hf3 _ _ hg).trans k3
    have hB4 := hb3.trans (hb4.mono hb3.size)
    have hg4 : g < w4.heap.size := Nat.lt_of_lt_of_le hg hb4.size
    clear hc3 hf3 hb4 hb3 hg
    go_cut [] (fun wq => g < wq.heap.size ∧ wq.cell? ⟨g, 0, none⟩ = some (.int .i64 bx) ∧ wq.cell? ⟨g, 1, none⟩ = some (.int .i64 bz) ∧ wq.frozen? ⟨g, 0, none⟩ = false ∧ wq.frozen? ⟨g, 1, none⟩ = false ∧ Below w2.heap.size w2 wq)
    case first =>
      obtain ⟨m0, m1, m2, m3, m4, m5, _⟩ := HM.out
      obtain ⟨_, s0, s1, s2, s3, s4, _⟩ := HSU.out
      have hs4 := hB4.size
      have hl0 : ∀ (z : Later w4) (o : Nat), z.val.cell? ⟨w.heap.size, o, none⟩ = w2.cell? ⟨w.heap.size, o, none⟩ := fun z o => (z.cell (by omega)).trans (hB4.cell (by show w.heap.size < w2.heap.size; omega))
      have hl2 : ∀ (z : Later w4) (o : Nat), z.val.cell? ⟨sb, o, none⟩ = w2.cell? ⟨sb, o, none⟩ := fun z o => (z.cell (by omega)).trans (hB4.cell (by show sb < w2.heap.size; omega))
      refine wp_region_later_tail 6 (Below.refl _ _) (by kernel_rfl) (by kernel_rfl) ?_
      simp only [List.take_succ_cons, List.take_zero, List.drop_succ_cons, List.drop_zero]
      repeat (go_big_quiet_step ((go_at_call 23; with_reducible exact calls_later (HBR.out _))))
      refine wpQuiet_nil ?_
      intro _ hw'
      obtain ⟨y0, hw''⟩ := hw'
      subst hw''
      have z0 : y0.val.cell? ⟨g, 0, none⟩ = some (.int .i64 ux) := (y0.cell hg4).trans k0
      have z1 : y0.val.cell? ⟨g, 1, none⟩ = some (.int .i64 uy) := (y0.cell hg4).trans k1
      have z2 : y0.val.frozen? ⟨g, 0, none⟩ = false := (y0.frz hg4).trans k2
      have z3 : y0.val.frozen? ⟨g, 1, none⟩ = false := (y0.frz hg4).trans k3
      clear hl0 hl2
      go_wp2_with fail
      go_meet
      case rel =>
        refine ⟨by rw [set_sz, set_sz]; exact Nat.lt_of_lt_of_le hg4 y0.ok.size, ?_, ?_, ?_, ?_, ?_⟩
        · go_simp
        · go_simp
        · go_simp
        · go_simp
        · exact ((hB4.trans (y0.ok.mono hs4)).setCell hgl _).setCell hgl _
    case rest =>
    clear hg4 k0 k1 k2 k3 hB4
    obtain ⟨hg4, k0, k1, k2, k3, hB4⟩ := hcut
    rename_i w4
    go_upto_region 9 with fail
    clear HBR HDT
    have hs4 := hB4.size
    obtain ⟨hc3, hf3⟩ := bcell hB4
    obtain ⟨m0, m1, m2, m3, m4, m5, m6, m7, m8, m9⟩ := HM.out
    have m2 := (hc3 _ _ (by omega)).trans m2
    have m3 := (hc3 _ _ (by omega)).trans m3
    have m6 := (hc3 _ _ (by omega)).trans m6
    have m7 := (hc3 _ _ (by omega)).trans m7
    have m8 := (hf3 _ _ (by omega)).trans m8
    have m9 := (hf3 _ _ (by omega)).trans m9
    have HS4 := hid (HSU.out.below hB4)
    have s8 := HS4.out.c8
    have f8 := HS4.out.f8
    have HDM := hid (dem_any _ s8)
    rw [hd] at HDM
    clear m0 m1 m4 m5 hc3 hf3 HM HSU
    have d1 : g ≠ sb := by omega
    have d2 : sb ≠ g := by omega
    have d3 : w.heap.size + 1 + 1 ≠ sb := by omega
    have d4 : sb ≠ w.heap.size + 1 + 1 := by omega
    have d5 : g ≠ w.heap.size + 1 + 1 := by omega
    have d6 : w.heap.size ≠ sb := by omega
    have HBF := HB2'.out.trans (hB4.mono hs2)
    have qe := eql_pt
    have CS : decide (bx = 0) = false ∨ (decide (bx = 0) = true ∧ decide (bz = 0) = false) ∨ (decide (bx = 0) = true ∧ decide (bz = 0) = true ∧ decide (vx = 0) = false) ∨ (decide (bx = 0) = true ∧ decide (bz = 0) = true ∧ decide (vx = 0) = true ∧ decide (vy = 0) = false) := by
      by_cases g1 : bx = 0
      · by_cases g2 : bz = 0
        · by_cases g3 : vx = 0
          · by_cases g4 : vy = 0
            · exact absurd ⟨⟨g1, g2⟩, g3, g4⟩ hz.out
            · exact Or.inr (Or.inr (Or.inr ⟨decide_eq_true g1, decide_eq_true g2, decide_eq_true g3, decide_eq_false g4⟩))
          · exact Or.inr (Or.inr (Or.inl ⟨decide_eq_true g1, decide_eq_true g2, decide_eq_false g3⟩))
        · exact Or.inr (Or.inl ⟨decide_eq_true g1, decide_eq_false g2⟩)
      · exact Or.inl (decide_eq_false g1)
    clear hz
    rcases CS with x1 | ⟨x1, x2⟩ | ⟨x1, x2, x3⟩ | ⟨x1, x2, x3, x4⟩
    · go_wp2_with (first | (go_at_call 24; (with_reducible refine HDM.out.mono ?_); rintro e w5 ⟨rfl, rfl⟩))
      (try simp only [Exit.inBlock, Exit.then])
      refine bodyPost_ret (v := pt bx bz) (by simp [results, Try.results11, go_sem, *]) rfl ?_
      exact ⟨rfl, (HS4.out.far (by show sb ≠ w.heap.size + 1 + 1; omega) _).far (by show sb ≠ w.heap.size + 1 + 1; omega) _, gset (gset (gof HBF) (Or.inl (by show w.heap.size ≤ w.heap.size + 1 + 1; omega)) _) (Or.inl (by show w.heap.size ≤ w.heap.size + 1 + 1; omega)) _⟩
    · go_wp2_with (first | (go_at_call 24; (with_reducible refine HDM.out.mono ?_); rintro e w5 ⟨rfl, rfl⟩))
      (try simp only [Exit.inBlock, Exit.then])
      refine bodyPost_ret (v := pt bx bz) (by simp [results, Try.results11, go_sem, *]) rfl ?_
      exact ⟨rfl, (HS4.out.far (by show sb ≠ w.heap.size + 1 + 1; omega) _).far (by show sb ≠ w.heap.size + 1 + 1; omega) _, gset (gset (gof HBF) (Or.inl (by show w.heap.size ≤ w.heap.size + 1 + 1; omega)) _) (Or.inl (by show w.heap.size ≤ w.heap.size + 1 + 1; omega)) _⟩
    · go_wp2_with (first | (go_at_call 24; (with_reducible refine HDM.out.mono ?_); rintro e w5 ⟨rfl, rfl⟩))
      (try simp only [Exit.inBlock, Exit.then])
      refine bodyPost_ret (v := pt bx bz) (by simp [results, Try.results11, go_sem, *]) rfl ?_
      exact ⟨rfl, (HS4.out.far (by show sb ≠ w.heap.size + 1 + 1; omega) _).far (by show sb ≠ w.heap.size + 1 + 1; omega) _, gset (gset (gof HBF) (Or.inl (by show w.heap.size ≤ w.heap.size + 1 + 1; omega)) _) (Or.inl (by show w.heap.size ≤ w.heap.size + 1 + 1; omega)) _⟩
    · go_wp2_with (first | (go_at_call 24; (with_reducible refine HDM.out.mono ?_); rintro e w5 ⟨rfl, rfl⟩))
      (try simp only [Exit.inBlock, Exit.then])
      refine bodyPost_ret (v := pt bx bz) (by simp [results, Try.results11, go_sem, *]) rfl ?_
      exact ⟨rfl, (HS4.out.far (by show sb ≠ w.heap.size + 1 + 1; omega) _).far (by show sb ≠ w.heap.size + 1 + 1; omega) _, gset (gset (gof HBF) (Or.inl (by show w.heap.size ≤ w.heap.size + 1 + 1; omega)) _) (Or.inl (by show w.heap.size ≤ w.heap.size + 1 + 1; omega)) _⟩
end Go.Proofs.Ytfcianhmfpenhaa
