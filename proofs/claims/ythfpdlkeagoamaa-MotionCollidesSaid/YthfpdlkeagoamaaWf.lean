/- Walks: the reference's Valid; ticks; braking. -/
import Derived.Test.YthfpdlkeagoamaaWe
import Derived.Test.YthfpdlkeagoamaaMot2
namespace Go.Proofs.Ythfpdlkeagoamaa
open Go.RowKit
set_option linter.unusedVariables false
theorem rcheck_no {S A B H M : Int} (h : chk S A B H M = false) (w : World) : Calls Try.prog 11 #[lim S A B H M] w fun e w' => e = .returned (.int .i64 4) ∧ Below w.heap.size w w' := by
  rw [← chkE_false h]; exact rcheck_any S A B H M w
theorem rcheck_yes {S A B H M : Int} (h : chk S A B H M = true) (w : World) : Calls Try.prog 11 #[lim S A B H M] w fun e w' => e = .returned (.int .i64 0) ∧ Below w.heap.size w w' := by
  rw [← chkE_true h]; exact rcheck_any S A B H M w
theorem reach_of {x y : Int} {b : Bool} (h : rchB x y = b) (w : World) : Calls Try.prog 32 #[pt x y] w fun e w' => e = .returned (.bool b) ∧ Below w.heap.size w w' := by
  rw [← h]; exact reach_any x y w
set_option maxHeartbeats 2000000 in
theorem rvalid_any (px py vx vy S A B H M : Int) (w : World) : Calls Try.prog 13 #[mo px py vx vy, lim S A B H M] w fun e w' => e = .returned (.bool (vld px py vx vy S A B H M)) ∧ Below w.heap.size w w' := by
  cases e1 : chk S A B H M with
  | false =>
    have e2 : True := trivial
    have e3 : True := trivial
    have hv : Hid (vld px py vx vy S A B H M = false) := hid (by unfold vld; rw [e1]; rfl)
    go_enter Try.func13, Try.ntmps13
    go_wp2_with fail
    have hl0 : ∀ (z : Later ((w.alloc (.cells #[.int .i64 px, .int .i64 py, .int .i64 vx, .int .i64 vy] 25)).alloc (.cells #[.int .i64 S, .int .i64 A, .int .i64 B, .int .i64 H, .int .i64 M] 27))) (o : Nat), z.val.cell? ⟨w.heap.size, o, none⟩ = ((w.alloc (.cells #[.int .i64 px, .int .i64 py, .int .i64 vx, .int .i64 vy] 25)).alloc (.cells #[.int .i64 S, .int .i64 A, .int .i64 B, .int .i64 H, .int .i64 M] 27)).cell? ⟨w.heap.size, o, none⟩ := fun z o => z.cell (by simp <;> omega)
    have hl1 : ∀ (z : Later ((w.alloc (.cells #[.int .i64 px, .int .i64 py, .int .i64 vx, .int .i64 vy] 25)).alloc (.cells #[.int .i64 S, .int .i64 A, .int .i64 B, .int .i64 H, .int .i64 M] 27))) (o : Nat), z.val.cell? ⟨w.heap.size + 1, o, none⟩ = ((w.alloc (.cells #[.int .i64 px, .int .i64 py, .int .i64 vx, .int .i64 vy] 25)).alloc (.cells #[.int .i64 S, .int .i64 A, .int .i64 B, .int .i64 H, .int .i64 M] 27)).cell? ⟨w.heap.size + 1, o, none⟩ := fun z o => z.cell (by simp <;> omega)
    refine wp_region_later (Below.refl _ _) (by kernel_rfl) (by kernel_rfl) ?_
    repeat (go_big_quiet_step ((first
      | (go_at_call 11; exact calls_later (rcheck_no e1 _))
  )))
    refine wpQuiet_nil ?_
    intro _ hw'
    obtain ⟨y0, hw''⟩ := hw'
    subst hw''
    go_wp2
    go_ret
    exact ⟨ret_bool hv.out.symm, box2 y0.ok⟩
  | true =>
    obtain ⟨hs1, hs2, _⟩ := chk_true e1
    obtain ⟨hq1, hq2⟩ := sq_S hs1 hs2
    cases e2 : rchB px py with
    | false =>
      have e3 : True := trivial
      have hv : Hid (vld px py vx vy S A B H M = false) := hid (by unfold vld; rw [e1, e2]; rfl)
      go_enter Try.func13, Try.ntmps13
      go_wp2_with fail
      have hl0 : ∀ (z : Later ((w.alloc (.cells #[.int .i64 px, .int .i64 py, .int .i64 vx, .int .i64 vy] 25)).alloc (.cells #[.int .i64 S, .int .i64 A, .int .i64 B, .int .i64 H, .int .i64 M] 27))) (o : Nat), z.val.cell? ⟨w.heap.size, o, none⟩ = ((w.alloc (.cells #[.int .i64 px, .int .i64 py, .int .i64 vx, .int .i64 vy] 25)).alloc (.cells #[.int .i64 S, .int .i64 A, .int .i64 B, .int .i64 H, .int .i64 M] 27)).cell? ⟨w.heap.size, o, none⟩ := fun z o => z.cell (by simp <;> omega)
      have hl1 : ∀ (z : Later ((w.alloc (.cells #[.int .i64 px, .int .i64 py, .int .i64 vx, .int .i64 vy] 25)).alloc (.cells #[.int .i64 S, .int .i64 A, .int .i64 B, .int .i64 H, .int .i64 M] 27))) (o : Nat), z.val.cell? ⟨w.heap.size + 1, o, none⟩ = ((w.alloc (.cells #[.int .i64 px, .int .i64 py, .int .i64 vx, .int .i64 vy] 25)).alloc (.cells #[.int .i64 S, .int .i64 A, .int .i64 B, .int .i64 H, .int .i64 M] 27)).cell? ⟨w.heap.size + 1, o, none⟩ := fun z o => z.cell (by simp <;> omega)
      refine wp_region_later (Below.refl _ _) (by kernel_rfl) (by kernel_rfl) ?_
      repeat (go_big_quiet_step ((first
        | (go_at_call 11; exact calls_later (rcheck_yes e1 _))
        | (go_at_call 32; with_reducible exact calls_later (reach_of e2 _))
)))
      refine wpQuiet_nil ?_
      intro _ hw'
      obtain ⟨y0, hw''⟩ := hw'
      subst hw''
      go_wp2
      go_ret
      exact ⟨ret_bool hv.out.symm, box2 y0.ok⟩
    | true =>
      cases e3 : rchB vx vy with
      | false =>
        have hv : Hid (vld px py vx vy S A B H M = false) := hid (by unfold vld; rw [e1, e2, e3]; rfl)
        go_enter Try.func13, Try.ntmps13
        go_wp2_with fail
        have hl0 : ∀ (z : Later ((w.alloc (.cells #[.int .i64 px, .int .i64 py, .int .i64 vx, .int .i64 vy] 25)).alloc (.cells #[.int .i64 S, .int .i64 A, .int .i64 B, .int .i64 H, .int .i64 M] 27))) (o : Nat), z.val.cell? ⟨w.heap.size, o, none⟩ = ((w.alloc (.cells #[.int .i64 px, .int .i64 py, .int .i64 vx, .int .i64 vy] 25)).alloc (.cells #[.int .i64 S, .int .i64 A, .int .i64 B, .int .i64 H, .int .i64 M] 27)).cell? ⟨w.heap.size, o, none⟩ := fun z o => z.cell (by simp <;> omega)
        have hl1 : ∀ (z : Later ((w.alloc (.cells #[.int .i64 px, .int .i64 py, .int .i64 vx, .int .i64 vy] 25)).alloc (.cells #[.int .i64 S, .int .i64 A, .int .i64 B, .int .i64 H, .int .i64 M] 27))) (o : Nat), z.val.cell? ⟨w.heap.size + 1, o, none⟩ = ((w.alloc (.cells #[.int .i64 px, .int .i64 py, .int .i64 vx, .int .i64 vy] 25)).alloc (.cells #[.int .i64 S, .int .i64 A, .int .i64 B, .int .i64 H, .int .i64 M] 27)).cell? ⟨w.heap.size + 1, o, none⟩ := fun z o => z.cell (by simp <;> omega)
        refine wp_region_later (Below.refl _ _) (by kernel_rfl) (by kernel_rfl) ?_
        repeat (go_big_quiet_step ((first
          | (go_at_call 11; exact calls_later (rcheck_yes e1 _))
          | (go_at_call 32; with_reducible exact calls_later (reach_of e2 _))
          | (go_at_call 32; with_reducible exact calls_later (reach_of e3 _))
)))
        refine wpQuiet_nil ?_
        intro _ hw'
        obtain ⟨y0, hw''⟩ := hw'
        subst hw''
        go_wp2
        go_ret
        exact ⟨ret_bool hv.out.symm, box2 y0.ok⟩
      | true =>
        have hx := rchB_true e3
        have hn1 := sqr_nonneg vx vy
        have hn2 := sqr_le (x := vx) (y := vy) (b := 1048576) (by omega) (by omega) (by omega) (by omega)
        have hv : Hid (vld px py vx vy S A B H M = decide (sqr vx vy ≤ S * S)) := hid (by unfold vld; rw [e1, e2, e3]; unfold sqOk; rfl)
        go_enter Try.func13, Try.ntmps13
        go_wp2_with fail
        have hl0 : ∀ (z : Later ((w.alloc (.cells #[.int .i64 px, .int .i64 py, .int .i64 vx, .int .i64 vy] 25)).alloc (.cells #[.int .i64 S, .int .i64 A, .int .i64 B, .int .i64 H, .int .i64 M] 27))) (o : Nat), z.val.cell? ⟨w.heap.size, o, none⟩ = ((w.alloc (.cells #[.int .i64 px, .int .i64 py, .int .i64 vx, .int .i64 vy] 25)).alloc (.cells #[.int .i64 S, .int .i64 A, .int .i64 B, .int .i64 H, .int .i64 M] 27)).cell? ⟨w.heap.size, o, none⟩ := fun z o => z.cell (by simp <;> omega)
        have hl1 : ∀ (z : Later ((w.alloc (.cells #[.int .i64 px, .int .i64 py, .int .i64 vx, .int .i64 vy] 25)).alloc (.cells #[.int .i64 S, .int .i64 A, .int .i64 B, .int .i64 H, .int .i64 M] 27))) (o : Nat), z.val.cell? ⟨w.heap.size + 1, o, none⟩ = ((w.alloc (.cells #[.int .i64 px, .int .i64 py, .int .i64 vx, .int .i64 vy] 25)).alloc (.cells #[.int .i64 S, .int .i64 A, .int .i64 B, .int .i64 H, .int .i64 M] 27)).cell? ⟨w.heap.size + 1, o, none⟩ := fun z o => z.cell (by simp <;> omega)
        refine wp_region_later (Below.refl _ _) (by kernel_rfl) (by kernel_rfl) ?_
        repeat (go_big_quiet_step ((first
          | (go_at_call 11; exact calls_later (rcheck_yes e1 _))
          | (go_at_call 32; with_reducible exact calls_later (reach_of e2 _))
          | (go_at_call 32; with_reducible exact calls_later (reach_of e3 _))
          | (go_at_call 33; exact calls_later (nsquare_any _ _ (by omega) (by omega) (by omega) (by omega) _)))))
        refine wpQuiet_nil ?_
        intro _ hw'
        obtain ⟨y0, hw''⟩ := hw'
        subst hw''
        go_wp2
        go_ret
        exact ⟨ret_bool hv.out.symm, box2 y0.ok⟩
set_option maxHeartbeats 1000000 in
theorem rtick_any (px py vx vy ux uy : Int) (h1 : -1048576 ≤ px) (h2 : px ≤ 1048576) (h3 : -1048576 ≤ py) (h4 : py ≤ 1048576) (h5 : -1048576 ≤ ux) (h6 : ux ≤ 1048576) (h7 : -1048576 ≤ uy) (h8 : uy ≤ 1048576) (w : World) : Calls Try.prog 38 #[mo px py vx vy, pt ux uy] w fun e w' => e = .returned (mo (clp (px + ux)) (clp (py + uy)) ux uy) ∧ Below w.heap.size w w' := by
  go_enter Try.func38, Try.ntmps38
  go_wp2_with fail
  have hl0 : ∀ (z : Later (((w.alloc (.cells #[.int .i64 px, .int .i64 py, .int .i64 vx, .int .i64 vy] 25)).alloc (.cells #[.int .i64 ux, .int .i64 uy] 23)).alloc (.cells #[.int .i64 0, .int .i64 0, .int .i64 0, .int .i64 0] 25))) (o : Nat), z.val.cell? ⟨w.heap.size, o, none⟩ = (((w.alloc (.cells #[.int .i64 px, .int .i64 py, .int .i64 vx, .int .i64 vy] 25)).alloc (.cells #[.int .i64 ux, .int .i64 uy] 23)).alloc (.cells #[.int .i64 0, .int .i64 0, .int .i64 0, .int .i64 0] 25)).cell? ⟨w.heap.size, o, none⟩ := fun z o => z.cell (by simp <;> omega)
  have hl1 : ∀ (z : Later (((w.alloc (.cells #[.int .i64 px, .int .i64 py, .int .i64 vx, .int .i64 vy] 25)).alloc (.cells #[.int .i64 ux, .int .i64 uy] 23)).alloc (.cells #[.int .i64 0, .int .i64 0, .int .i64 0, .int .i64 0] 25))) (o : Nat), z.val.cell? ⟨w.heap.size + 1, o, none⟩ = (((w.alloc (.cells #[.int .i64 px, .int .i64 py, .int .i64 vx, .int .i64 vy] 25)).alloc (.cells #[.int .i64 ux, .int .i64 uy] 23)).alloc (.cells #[.int .i64 0, .int .i64 0, .int .i64 0, .int .i64 0] 25)).cell? ⟨w.heap.size + 1, o, none⟩ := fun z o => z.cell (by simp <;> omega)
  have hl2 : ∀ (z : Later (((w.alloc (.cells #[.int .i64 px, .int .i64 py, .int .i64 vx, .int .i64 vy] 25)).alloc (.cells #[.int .i64 ux, .int .i64 uy] 23)).alloc (.cells #[.int .i64 0, .int .i64 0, .int .i64 0, .int .i64 0] 25))) (o : Nat), z.val.cell? ⟨w.heap.size + 1 + 1, o, none⟩ = (((w.alloc (.cells #[.int .i64 px, .int .i64 py, .int .i64 vx, .int .i64 vy] 25)).alloc (.cells #[.int .i64 ux, .int .i64 uy] 23)).alloc (.cells #[.int .i64 0, .int .i64 0, .int .i64 0, .int .i64 0] 25)).cell? ⟨w.heap.size + 1 + 1, o, none⟩ := fun z o => z.cell (by simp <;> omega)
  have hz2 : ∀ (z : Later (((w.alloc (.cells #[.int .i64 px, .int .i64 py, .int .i64 vx, .int .i64 vy] 25)).alloc (.cells #[.int .i64 ux, .int .i64 uy] 23)).alloc (.cells #[.int .i64 0, .int .i64 0, .int .i64 0, .int .i64 0] 25))) (o : Nat), z.val.frozen? ⟨w.heap.size + 1 + 1, o, none⟩ = (((w.alloc (.cells #[.int .i64 px, .int .i64 py, .int .i64 vx, .int .i64 vy] 25)).alloc (.cells #[.int .i64 ux, .int .i64 uy] 23)).alloc (.cells #[.int .i64 0, .int .i64 0, .int .i64 0, .int .i64 0] 25)).frozen? ⟨w.heap.size + 1 + 1, o, none⟩ := fun z o => z.frz (by simp <;> omega)
  refine wp_region_later_tail 7 (Below.refl _ _) (by kernel_rfl) (by kernel_rfl) ?_
  simp only [List.take_succ_cons, List.take_zero, List.drop_succ_cons, List.drop_zero]
  repeat (go_big_quiet_step ((first | (go_at_call 37; exact calls_later (sum_any _ _ _ _ (by omega) (by omega) (by omega) (by omega) (by omega) (by omega) (by omega) (by omega) _)) | (go_at_call 16; exact calls_later (rclamp_any _ _ _)))))
  refine wpQuiet_nil ?_
  intro _ hw'
  obtain ⟨y0, hw''⟩ := hw'
  subst hw''
  go_wp2
  (try simp only [Exit.inBlock, Exit.then])
  refine bodyPost_ret (v := mo (clp (px + ux)) (clp (py + uy)) ux uy) (by simp [results, Try.results38, go_sem, hl2]) rfl ?_
  exact ⟨rfl, (((((box3 y0.ok).setCell (by simp <;> omega) _).setCell (by simp <;> omega) _).setCell (by simp <;> omega) _).setCell (by simp <;> omega) _)⟩
theorem scale_brk (vx vy B : Int) (h1 : -4096 ≤ vx) (h2 : vx ≤ 4096) (h3 : -4096 ≤ vy) (h4 : vy ≤ 4096) (w : World) : Calls Try.prog 47 #[pt vx vy, .int .i64 (brkL vx vy B)] w fun e w' => e = .returned (pt (brkX vx vy B) (brkY vx vy B)) ∧ Below w.heap.size w w' := by
  have := scale_any vx vy (brkL vx vy B) (by omega) (by omega) (by omega) (by omega) w
  unfold brkX brkY
  rw [show max (brkL vx vy B) 0 = brkL vx vy B from by unfold brkL; omega] at this
  exact this
theorem rscale_brk (vx vy B : Int) (h1 : -4096 ≤ vx) (h2 : vx ≤ 4096) (h3 : -4096 ≤ vy) (h4 : vy ≤ 4096) (w : World) : Calls Try.prog 36 #[pt vx vy, .int .i64 (brkL vx vy B)] w fun e w' => e = .returned (pt (brkX vx vy B) (brkY vx vy B)) ∧ Below w.heap.size w w' := by
  have := rscale_any vx vy (brkL vx vy B) (by omega) (by omega) (by omega) (by omega) w
  unfold brkX brkY
  rw [show max (brkL vx vy B) 0 = brkL vx vy B from by unfold brkL; omega] at this
  exact this
set_option maxHeartbeats 1000000 in
theorem braked_lo_any (S A B H M vx vy ux uy : Int) (h1 : -4096 ≤ vx) (h2 : vx ≤ 4096) (h3 : -4096 ≤ vy) (h4 : vy ≤ 4096) (b1 : 0 ≤ B) (b2 : B ≤ 4096) (hb : isq (sqr vx vy) ≤ B) (w : World) : Calls Try.prog 39 #[lim S A B H M, pt vx vy, pt ux uy] w fun e w' => e = .returned (pt (brkX vx vy B) (brkY vx vy B)) ∧ Below w.heap.size w w' := by
  have hq1 := sqr_nonneg vx vy
  have hq2 := sqr_le (x := vx) (y := vy) (b := 4096) (by omega) (by omega) (by omega) (by omega)
  obtain ⟨i1, i2⟩ := isq_le (n := sqr vx vy) (by omega)
  have hs := scale_brk vx vy B (by omega) (by omega) (by omega) (by omega)
  rw [brkL_lo hb] at hs
  have HS := hid hs
  clear hs
  go_enter Try.func39, Try.ntmps39
  go_wp2_with fail
  have hl0 : ∀ (z : Later ((((w.alloc (.cells #[.int .i64 S, .int .i64 A, .int .i64 B, .int .i64 H, .int .i64 M] 53)).alloc (.cells #[.int .i64 vx, .int .i64 vy] 23)).alloc (.cells #[.int .i64 ux, .int .i64 uy] 23)).alloc (.cells #[.int .i64 0, .int .i64 0] 23))) (o : Nat), z.val.cell? ⟨w.heap.size, o, none⟩ = ((((w.alloc (.cells #[.int .i64 S, .int .i64 A, .int .i64 B, .int .i64 H, .int .i64 M] 53)).alloc (.cells #[.int .i64 vx, .int .i64 vy] 23)).alloc (.cells #[.int .i64 ux, .int .i64 uy] 23)).alloc (.cells #[.int .i64 0, .int .i64 0] 23)).cell? ⟨w.heap.size, o, none⟩ := fun z o => z.cell (by simp <;> omega)
  have hl1 : ∀ (z : Later ((((w.alloc (.cells #[.int .i64 S, .int .i64 A, .int .i64 B, .int .i64 H, .int .i64 M] 53)).alloc (.cells #[.int .i64 vx, .int .i64 vy] 23)).alloc (.cells #[.int .i64 ux, .int .i64 uy] 23)).alloc (.cells #[.int .i64 0, .int .i64 0] 23))) (o : Nat), z.val.cell? ⟨w.heap.size + 1, o, none⟩ = ((((w.alloc (.cells #[.int .i64 S, .int .i64 A, .int .i64 B, .int .i64 H, .int .i64 M] 53)).alloc (.cells #[.int .i64 vx, .int .i64 vy] 23)).alloc (.cells #[.int .i64 ux, .int .i64 uy] 23)).alloc (.cells #[.int .i64 0, .int .i64 0] 23)).cell? ⟨w.heap.size + 1, o, none⟩ := fun z o => z.cell (by simp <;> omega)
  have hl2 : ∀ (z : Later ((((w.alloc (.cells #[.int .i64 S, .int .i64 A, .int .i64 B, .int .i64 H, .int .i64 M] 53)).alloc (.cells #[.int .i64 vx, .int .i64 vy] 23)).alloc (.cells #[.int .i64 ux, .int .i64 uy] 23)).alloc (.cells #[.int .i64 0, .int .i64 0] 23))) (o : Nat), z.val.cell? ⟨w.heap.size + 1 + 1, o, none⟩ = ((((w.alloc (.cells #[.int .i64 S, .int .i64 A, .int .i64 B, .int .i64 H, .int .i64 M] 53)).alloc (.cells #[.int .i64 vx, .int .i64 vy] 23)).alloc (.cells #[.int .i64 ux, .int .i64 uy] 23)).alloc (.cells #[.int .i64 0, .int .i64 0] 23)).cell? ⟨w.heap.size + 1 + 1, o, none⟩ := fun z o => z.cell (by simp <;> omega)
  have hl3 : ∀ (z : Later ((((w.alloc (.cells #[.int .i64 S, .int .i64 A, .int .i64 B, .int .i64 H, .int .i64 M] 53)).alloc (.cells #[.int .i64 vx, .int .i64 vy] 23)).alloc (.cells #[.int .i64 ux, .int .i64 uy] 23)).alloc (.cells #[.int .i64 0, .int .i64 0] 23))) (o : Nat), z.val.cell? ⟨w.heap.size + 1 + 1 + 1, o, none⟩ = ((((w.alloc (.cells #[.int .i64 S, .int .i64 A, .int .i64 B, .int .i64 H, .int .i64 M] 53)).alloc (.cells #[.int .i64 vx, .int .i64 vy] 23)).alloc (.cells #[.int .i64 ux, .int .i64 uy] 23)).alloc (.cells #[.int .i64 0, .int .i64 0] 23)).cell? ⟨w.heap.size + 1 + 1 + 1, o, none⟩ := fun z o => z.cell (by simp <;> omega)
  have hz3 : ∀ (z : Later ((((w.alloc (.cells #[.int .i64 S, .int .i64 A, .int .i64 B, .int .i64 H, .int .i64 M] 53)).alloc (.cells #[.int .i64 vx, .int .i64 vy] 23)).alloc (.cells #[.int .i64 ux, .int .i64 uy] 23)).alloc (.cells #[.int .i64 0, .int .i64 0] 23))) (o : Nat), z.val.frozen? ⟨w.heap.size + 1 + 1 + 1, o, none⟩ = ((((w.alloc (.cells #[.int .i64 S, .int .i64 A, .int .i64 B, .int .i64 H, .int .i64 M] 53)).alloc (.cells #[.int .i64 vx, .int .i64 vy] 23)).alloc (.cells #[.int .i64 ux, .int .i64 uy] 23)).alloc (.cells #[.int .i64 0, .int .i64 0] 23)).frozen? ⟨w.heap.size + 1 + 1 + 1, o, none⟩ := fun z o => z.frz (by simp <;> omega)
  refine wp_region_later_tail 9 (Below.refl _ _) (by kernel_rfl) (by kernel_rfl) ?_
  simp only [List.take_succ_cons, List.take_zero, List.drop_succ_cons, List.drop_zero]
  repeat (go_big_quiet_step ((first | (go_at_call 50; exact calls_later (length_any _ _ (by omega) (by omega) (by omega) (by omega) _)) | (go_at_call 47; with_reducible exact calls_later (HS.out _)))))
  refine wpQuiet_nil ?_
  intro _ hw'
  obtain ⟨y0, hw''⟩ := hw'
  subst hw''
  go_wp2
  (try simp only [Exit.inBlock, Exit.then])
  refine bodyPost_ret (v := pt (brkX vx vy B) (brkY vx vy B)) (by simp [results, Try.results39, go_sem, hl3]) rfl ?_
  exact ⟨rfl, (((below_box (box3 y0.ok)).setCell (by simp <;> omega) _).setCell (by simp <;> omega) _)⟩
set_option maxHeartbeats 1000000 in
theorem braked_hi_any (S A B H M vx vy ux uy : Int) (h1 : -4096 ≤ vx) (h2 : vx ≤ 4096) (h3 : -4096 ≤ vy) (h4 : vy ≤ 4096) (b1 : 0 ≤ B) (b2 : B ≤ 4096) (hb : B < isq (sqr vx vy)) (w : World) : Calls Try.prog 39 #[lim S A B H M, pt vx vy, pt ux uy] w fun e w' => e = .returned (pt (brkX vx vy B) (brkY vx vy B)) ∧ Below w.heap.size w w' := by
  have hq1 := sqr_nonneg vx vy
  have hq2 := sqr_le (x := vx) (y := vy) (b := 4096) (by omega) (by omega) (by omega) (by omega)
  obtain ⟨i1, i2⟩ := isq_le (n := sqr vx vy) (by omega)
  have hs := scale_brk vx vy B (by omega) (by omega) (by omega) (by omega)
  rw [brkL_hi hb] at hs
  have HS := hid hs
  clear hs
  go_enter Try.func39, Try.ntmps39
  go_wp2_with fail
  have hl0 : ∀ (z : Later ((((w.alloc (.cells #[.int .i64 S, .int .i64 A, .int .i64 B, .int .i64 H, .int .i64 M] 53)).alloc (.cells #[.int .i64 vx, .int .i64 vy] 23)).alloc (.cells #[.int .i64 ux, .int .i64 uy] 23)).alloc (.cells #[.int .i64 0, .int .i64 0] 23))) (o : Nat), z.val.cell? ⟨w.heap.size, o, none⟩ = ((((w.alloc (.cells #[.int .i64 S, .int .i64 A, .int .i64 B, .int .i64 H, .int .i64 M] 53)).alloc (.cells #[.int .i64 vx, .int .i64 vy] 23)).alloc (.cells #[.int .i64 ux, .int .i64 uy] 23)).alloc (.cells #[.int .i64 0, .int .i64 0] 23)).cell? ⟨w.heap.size, o, none⟩ := fun z o => z.cell (by simp <;> omega)
  have hl1 : ∀ (z : Later ((((w.alloc (.cells #[.int .i64 S, .int .i64 A, .int .i64 B, .int .i64 H, .int .i64 M] 53)).alloc (.cells #[.int .i64 vx, .int .i64 vy] 23)).alloc (.cells #[.int .i64 ux, .int .i64 uy] 23)).alloc (.cells #[.int .i64 0, .int .i64 0] 23))) (o : Nat), z.val.cell? ⟨w.heap.size + 1, o, none⟩ = ((((w.alloc (.cells #[.int .i64 S, .int .i64 A, .int .i64 B, .int .i64 H, .int .i64 M] 53)).alloc (.cells #[.int .i64 vx, .int .i64 vy] 23)).alloc (.cells #[.int .i64 ux, .int .i64 uy] 23)).alloc (.cells #[.int .i64 0, .int .i64 0] 23)).cell? ⟨w.heap.size + 1, o, none⟩ := fun z o => z.cell (by simp <;> omega)
  have hl2 : ∀ (z : Later ((((w.alloc (.cells #[.int .i64 S, .int .i64 A, .int .i64 B, .int .i64 H, .int .i64 M] 53)).alloc (.cells #[.int .i64 vx, .int .i64 vy] 23)).alloc (.cells #[.int .i64 ux, .int .i64 uy] 23)).alloc (.cells #[.int .i64 0, .int .i64 0] 23))) (o : Nat), z.val.cell? ⟨w.heap.size + 1 + 1, o, none⟩ = ((((w.alloc (.cells #[.int .i64 S, .int .i64 A, .int .i64 B, .int .i64 H, .int .i64 M] 53)).alloc (.cells #[.int .i64 vx, .int .i64 vy] 23)).alloc (.cells #[.int .i64 ux, .int .i64 uy] 23)).alloc (.cells #[.int .i64 0, .int .i64 0] 23)).cell? ⟨w.heap.size + 1 + 1, o, none⟩ := fun z o => z.cell (by simp <;> omega)
  have hl3 : ∀ (z : Later ((((w.alloc (.cells #[.int .i64 S, .int .i64 A, .int .i64 B, .int .i64 H, .int .i64 M] 53)).alloc (.cells #[.int .i64 vx, .int .i64 vy] 23)).alloc (.cells #[.int .i64 ux, .int .i64 uy] 23)).alloc (.cells #[.int .i64 0, .int .i64 0] 23))) (o : Nat), z.val.cell? ⟨w.heap.size + 1 + 1 + 1, o, none⟩ = ((((w.alloc (.cells #[.int .i64 S, .int .i64 A, .int .i64 B, .int .i64 H, .int .i64 M] 53)).alloc (.cells #[.int .i64 vx, .int .i64 vy] 23)).alloc (.cells #[.int .i64 ux, .int .i64 uy] 23)).alloc (.cells #[.int .i64 0, .int .i64 0] 23)).cell? ⟨w.heap.size + 1 + 1 + 1, o, none⟩ := fun z o => z.cell (by simp <;> omega)
  have hz3 : ∀ (z : Later ((((w.alloc (.cells #[.int .i64 S, .int .i64 A, .int .i64 B, .int .i64 H, .int .i64 M] 53)).alloc (.cells #[.int .i64 vx, .int .i64 vy] 23)).alloc (.cells #[.int .i64 ux, .int .i64 uy] 23)).alloc (.cells #[.int .i64 0, .int .i64 0] 23))) (o : Nat), z.val.frozen? ⟨w.heap.size + 1 + 1 + 1, o, none⟩ = ((((w.alloc (.cells #[.int .i64 S, .int .i64 A, .int .i64 B, .int .i64 H, .int .i64 M] 53)).alloc (.cells #[.int .i64 vx, .int .i64 vy] 23)).alloc (.cells #[.int .i64 ux, .int .i64 uy] 23)).alloc (.cells #[.int .i64 0, .int .i64 0] 23)).frozen? ⟨w.heap.size + 1 + 1 + 1, o, none⟩ := fun z o => z.frz (by simp <;> omega)
  refine wp_region_later_tail 9 (Below.refl _ _) (by kernel_rfl) (by kernel_rfl) ?_
  simp only [List.take_succ_cons, List.take_zero, List.drop_succ_cons, List.drop_zero]
  repeat (go_big_quiet_step ((first | (go_at_call 50; exact calls_later (length_any _ _ (by omega) (by omega) (by omega) (by omega) _)) | (go_at_call 47; with_reducible exact calls_later (HS.out _)))))
  refine wpQuiet_nil ?_
  intro _ hw'
  obtain ⟨y0, hw''⟩ := hw'
  subst hw''
  go_wp2
  (try simp only [Exit.inBlock, Exit.then])
  refine bodyPost_ret (v := pt (brkX vx vy B) (brkY vx vy B)) (by simp [results, Try.results39, go_sem, hl3]) rfl ?_
  exact ⟨rfl, (((below_box (box3 y0.ok)).setCell (by simp <;> omega) _).setCell (by simp <;> omega) _)⟩
theorem braked_any (S A B H M vx vy ux uy : Int) (h1 : -4096 ≤ vx) (h2 : vx ≤ 4096) (h3 : -4096 ≤ vy) (h4 : vy ≤ 4096) (b1 : 0 ≤ B) (b2 : B ≤ 4096) (w : World) : Calls Try.prog 39 #[lim S A B H M, pt vx vy, pt ux uy] w fun e w' => e = .returned (pt (brkX vx vy B) (brkY vx vy B)) ∧ Below w.heap.size w w' := by
  rcases Int.lt_or_le B (isq (sqr vx vy)) with h | h
  · exact braked_hi_any S A B H M vx vy ux uy h1 h2 h3 h4 b1 b2 h w
  · exact braked_lo_any S A B H M vx vy ux uy h1 h2 h3 h4 b1 b2 h w
abbrev rule (f : Nat) (S A B H M : Int) : Value := .func (.func f) #[lim S A B H M] #[]
set_option maxHeartbeats 1000000 in
theorem next35_any (S A B H M px py vx vy wx wy ux uy : Int) (h1 : -1048576 ≤ px) (h2 : px ≤ 1048576) (h3 : -1048576 ≤ py) (h4 : py ≤ 1048576) (h5 : -1048576 ≤ ux) (h6 : ux ≤ 1048576) (h7 : -1048576 ≤ uy) (h8 : uy ≤ 1048576) (HF : Hid (∀ w, Calls Try.prog 35 #[lim S A B H M, pt vx vy, pt wx wy] w fun e w' => e = .returned (pt ux uy) ∧ Below w.heap.size w w')) (w : World) : Calls Try.prog 34 #[mo px py vx vy, pt wx wy, rule 35 S A B H M] w fun e w' => e = .returned (mo (clp (px + ux)) (clp (py + uy)) ux uy) ∧ Below w.heap.size w w' := by
  go_enter Try.func34, Try.ntmps34
  go_wp2_with fail
  have hl0 : ∀ (z : Later (((w.alloc (.cells #[.int .i64 px, .int .i64 py, .int .i64 vx, .int .i64 vy] 25)).alloc (.cells #[.int .i64 wx, .int .i64 wy] 23)).alloc (.cells #[.int .i64 0, .int .i64 0, .int .i64 0, .int .i64 0] 25))) (o : Nat), z.val.cell? ⟨w.heap.size, o, none⟩ = (((w.alloc (.cells #[.int .i64 px, .int .i64 py, .int .i64 vx, .int .i64 vy] 25)).alloc (.cells #[.int .i64 wx, .int .i64 wy] 23)).alloc (.cells #[.int .i64 0, .int .i64 0, .int .i64 0, .int .i64 0] 25)).cell? ⟨w.heap.size, o, none⟩ := fun z o => z.cell (by simp <;> omega)
  have hl1 : ∀ (z : Later (((w.alloc (.cells #[.int .i64 px, .int .i64 py, .int .i64 vx, .int .i64 vy] 25)).alloc (.cells #[.int .i64 wx, .int .i64 wy] 23)).alloc (.cells #[.int .i64 0, .int .i64 0, .int .i64 0, .int .i64 0] 25))) (o : Nat), z.val.cell? ⟨w.heap.size + 1, o, none⟩ = (((w.alloc (.cells #[.int .i64 px, .int .i64 py, .int .i64 vx, .int .i64 vy] 25)).alloc (.cells #[.int .i64 wx, .int .i64 wy] 23)).alloc (.cells #[.int .i64 0, .int .i64 0, .int .i64 0, .int .i64 0] 25)).cell? ⟨w.heap.size + 1, o, none⟩ := fun z o => z.cell (by simp <;> omega)
  have hl2 : ∀ (z : Later (((w.alloc (.cells #[.int .i64 px, .int .i64 py, .int .i64 vx, .int .i64 vy] 25)).alloc (.cells #[.int .i64 wx, .int .i64 wy] 23)).alloc (.cells #[.int .i64 0, .int .i64 0, .int .i64 0, .int .i64 0] 25))) (o : Nat), z.val.cell? ⟨w.heap.size + 1 + 1, o, none⟩ = (((w.alloc (.cells #[.int .i64 px, .int .i64 py, .int .i64 vx, .int .i64 vy] 25)).alloc (.cells #[.int .i64 wx, .int .i64 wy] 23)).alloc (.cells #[.int .i64 0, .int .i64 0, .int .i64 0, .int .i64 0] 25)).cell? ⟨w.heap.size + 1 + 1, o, none⟩ := fun z o => z.cell (by simp <;> omega)
  have hz2 : ∀ (z : Later (((w.alloc (.cells #[.int .i64 px, .int .i64 py, .int .i64 vx, .int .i64 vy] 25)).alloc (.cells #[.int .i64 wx, .int .i64 wy] 23)).alloc (.cells #[.int .i64 0, .int .i64 0, .int .i64 0, .int .i64 0] 25))) (o : Nat), z.val.frozen? ⟨w.heap.size + 1 + 1, o, none⟩ = (((w.alloc (.cells #[.int .i64 px, .int .i64 py, .int .i64 vx, .int .i64 vy] 25)).alloc (.cells #[.int .i64 wx, .int .i64 wy] 23)).alloc (.cells #[.int .i64 0, .int .i64 0, .int .i64 0, .int .i64 0] 25)).frozen? ⟨w.heap.size + 1 + 1, o, none⟩ := fun z o => z.frz (by simp <;> omega)
  refine wp_region_later_tail 7 (Below.refl _ _) (by kernel_rfl) (by kernel_rfl) ?_
  simp only [List.take_succ_cons, List.take_zero, List.drop_succ_cons, List.drop_zero]
  repeat (go_big_quiet_step ((first | (go_at_call 46; exact calls_later (tick_any _ _ _ _ _ _ (by omega) (by omega) (by omega) (by omega) (by omega) (by omega) (by omega) (by omega) _)) | (go_at_call 35; exact calls_later (HF.out _)))))
  refine wpQuiet_nil ?_
  intro _ hw'
  obtain ⟨y0, hw''⟩ := hw'
  subst hw''
  go_wp2
  (try simp only [Exit.inBlock, Exit.then])
  refine bodyPost_ret (v := mo (clp (px + ux)) (clp (py + uy)) ux uy) (by simp [results, Try.results34, go_sem, hl2]) rfl ?_
  exact ⟨rfl, (((((box3 y0.ok).setCell (by simp <;> omega) _).setCell (by simp <;> omega) _).setCell (by simp <;> omega) _).setCell (by simp <;> omega) _)⟩
set_option maxHeartbeats 1000000 in
theorem next39_any (S A B H M px py vx vy wx wy ux uy : Int) (h1 : -1048576 ≤ px) (h2 : px ≤ 1048576) (h3 : -1048576 ≤ py) (h4 : py ≤ 1048576) (h5 : -1048576 ≤ ux) (h6 : ux ≤ 1048576) (h7 : -1048576 ≤ uy) (h8 : uy ≤ 1048576) (HF : Hid (∀ w, Calls Try.prog 39 #[lim S A B H M, pt vx vy, pt wx wy] w fun e w' => e = .returned (pt ux uy) ∧ Below w.heap.size w w')) (w : World) : Calls Try.prog 34 #[mo px py vx vy, pt wx wy, rule 39 S A B H M] w fun e w' => e = .returned (mo (clp (px + ux)) (clp (py + uy)) ux uy) ∧ Below w.heap.size w w' := by
  go_enter Try.func34, Try.ntmps34
  go_wp2_with fail
  have hl0 : ∀ (z : Later (((w.alloc (.cells #[.int .i64 px, .int .i64 py, .int .i64 vx, .int .i64 vy] 25)).alloc (.cells #[.int .i64 wx, .int .i64 wy] 23)).alloc (.cells #[.int .i64 0, .int .i64 0, .int .i64 0, .int .i64 0] 25))) (o : Nat), z.val.cell? ⟨w.heap.size, o, none⟩ = (((w.alloc (.cells #[.int .i64 px, .int .i64 py, .int .i64 vx, .int .i64 vy] 25)).alloc (.cells #[.int .i64 wx, .int .i64 wy] 23)).alloc (.cells #[.int .i64 0, .int .i64 0, .int .i64 0, .int .i64 0] 25)).cell? ⟨w.heap.size, o, none⟩ := fun z o => z.cell (by simp <;> omega)
  have hl1 : ∀ (z : Later (((w.alloc (.cells #[.int .i64 px, .int .i64 py, .int .i64 vx, .int .i64 vy] 25)).alloc (.cells #[.int .i64 wx, .int .i64 wy] 23)).alloc (.cells #[.int .i64 0, .int .i64 0, .int .i64 0, .int .i64 0] 25))) (o : Nat), z.val.cell? ⟨w.heap.size + 1, o, none⟩ = (((w.alloc (.cells #[.int .i64 px, .int .i64 py, .int .i64 vx, .int .i64 vy] 25)).alloc (.cells #[.int .i64 wx, .int .i64 wy] 23)).alloc (.cells #[.int .i64 0, .int .i64 0, .int .i64 0, .int .i64 0] 25)).cell? ⟨w.heap.size + 1, o, none⟩ := fun z o => z.cell (by simp <;> omega)
  have hl2 : ∀ (z : Later (((w.alloc (.cells #[.int .i64 px, .int .i64 py, .int .i64 vx, .int .i64 vy] 25)).alloc (.cells #[.int .i64 wx, .int .i64 wy] 23)).alloc (.cells #[.int .i64 0, .int .i64 0, .int .i64 0, .int .i64 0] 25))) (o : Nat), z.val.cell? ⟨w.heap.size + 1 + 1, o, none⟩ = (((w.alloc (.cells #[.int .i64 px, .int .i64 py, .int .i64 vx, .int .i64 vy] 25)).alloc (.cells #[.int .i64 wx, .int .i64 wy] 23)).alloc (.cells #[.int .i64 0, .int .i64 0, .int .i64 0, .int .i64 0] 25)).cell? ⟨w.heap.size + 1 + 1, o, none⟩ := fun z o => z.cell (by simp <;> omega)
  have hz2 : ∀ (z : Later (((w.alloc (.cells #[.int .i64 px, .int .i64 py, .int .i64 vx, .int .i64 vy] 25)).alloc (.cells #[.int .i64 wx, .int .i64 wy] 23)).alloc (.cells #[.int .i64 0, .int .i64 0, .int .i64 0, .int .i64 0] 25))) (o : Nat), z.val.frozen? ⟨w.heap.size + 1 + 1, o, none⟩ = (((w.alloc (.cells #[.int .i64 px, .int .i64 py, .int .i64 vx, .int .i64 vy] 25)).alloc (.cells #[.int .i64 wx, .int .i64 wy] 23)).alloc (.cells #[.int .i64 0, .int .i64 0, .int .i64 0, .int .i64 0] 25)).frozen? ⟨w.heap.size + 1 + 1, o, none⟩ := fun z o => z.frz (by simp <;> omega)
  refine wp_region_later_tail 7 (Below.refl _ _) (by kernel_rfl) (by kernel_rfl) ?_
  simp only [List.take_succ_cons, List.take_zero, List.drop_succ_cons, List.drop_zero]
  repeat (go_big_quiet_step ((first | (go_at_call 46; exact calls_later (tick_any _ _ _ _ _ _ (by omega) (by omega) (by omega) (by omega) (by omega) (by omega) (by omega) (by omega) _)) | (go_at_call 39; exact calls_later (HF.out _)))))
  refine wpQuiet_nil ?_
  intro _ hw'
  obtain ⟨y0, hw''⟩ := hw'
  subst hw''
  go_wp2
  (try simp only [Exit.inBlock, Exit.then])
  refine bodyPost_ret (v := mo (clp (px + ux)) (clp (py + uy)) ux uy) (by simp [results, Try.results34, go_sem, hl2]) rfl ?_
  exact ⟨rfl, (((((box3 y0.ok).setCell (by simp <;> omega) _).setCell (by simp <;> omega) _).setCell (by simp <;> omega) _).setCell (by simp <;> omega) _)⟩
end Go.Proofs.Ythfpdlkeagoamaa
