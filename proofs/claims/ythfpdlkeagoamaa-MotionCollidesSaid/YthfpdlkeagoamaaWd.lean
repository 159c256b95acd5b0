/- Walks: reach, clamped points, ticks. -/
import Derived.Test.YthfpdlkeagoamaaWc
namespace Go.Proofs.Ythfpdlkeagoamaa
open Go.RowKit
set_option linter.unusedVariables false
theorem reach_any (x y : Int) (w : World) : Calls Try.prog 32 #[pt x y] w fun e w' => e = .returned (.bool (rchB x y)) ∧ Below w.heap.size w w' := by
  cases e1 : inB x (-1048576) 1048576 with
  | false =>
    have hv : Hid (rchB x y = false) := hid (by unfold rchB; rw [e1]; rfl)
    go_enter Try.func32, Try.ntmps32
    go_wp2_with (first | (go_at_call 29; (with_reducible refine (rwithin_any _ _ _ _).mono ?_); rintro e w2 ⟨rfl, rfl⟩))
    go_ret
    exact ⟨ret_bool hv.out.symm, by go_grown⟩
  | true =>
    have hv : Hid (rchB x y = inB y (-1048576) 1048576) := hid (by unfold rchB; rw [e1]; rfl)
    go_enter Try.func32, Try.ntmps32
    go_wp2_with (first | (go_at_call 29; (with_reducible refine (rwithin_any _ _ _ _).mono ?_); rintro e w2 ⟨rfl, rfl⟩))
    go_ret
    exact ⟨ret_bool hv.out.symm, by go_grown⟩
theorem one_any (n : Int) (w : World) : Calls Try.prog 44 #[.int .i64 n] w fun e w' => e = .returned (.int .i64 (clp n)) ∧ w = w' := by
  go_enter Try.func44, Try.ntmps44
  go_wp2_with (first | (go_at_call 45; (with_reducible refine (clamp_any _ _ _ _).mono ?_); rintro e w2 ⟨rfl, rfl⟩))
  go_ret
  exact ⟨rfl, rfl⟩
set_option maxHeartbeats 1000000 in
theorem clamped_any (x y : Int)  (w : World) : Calls Try.prog 31 #[pt x y] w fun e w' => e = .returned (pt (clp x) (clp y)) ∧ Below w.heap.size w w' := by
  go_enter Try.func31, Try.ntmps31
  go_wp2_with fail
  have hl0 : ∀ (z : Later ((w.alloc (.cells #[.int .i64 x, .int .i64 y] 23)).alloc (.cells #[.int .i64 0, .int .i64 0] 23))) (o : Nat), z.val.cell? ⟨w.heap.size, o, none⟩ = ((w.alloc (.cells #[.int .i64 x, .int .i64 y] 23)).alloc (.cells #[.int .i64 0, .int .i64 0] 23)).cell? ⟨w.heap.size, o, none⟩ := fun z o => z.cell (by simp <;> omega)
  have hl1 : ∀ (z : Later ((w.alloc (.cells #[.int .i64 x, .int .i64 y] 23)).alloc (.cells #[.int .i64 0, .int .i64 0] 23))) (o : Nat), z.val.cell? ⟨w.heap.size + 1, o, none⟩ = ((w.alloc (.cells #[.int .i64 x, .int .i64 y] 23)).alloc (.cells #[.int .i64 0, .int .i64 0] 23)).cell? ⟨w.heap.size + 1, o, none⟩ := fun z o => z.cell (by simp <;> omega)
  have hz1 : ∀ (z : Later ((w.alloc (.cells #[.int .i64 x, .int .i64 y] 23)).alloc (.cells #[.int .i64 0, .int .i64 0] 23))) (o : Nat), z.val.frozen? ⟨w.heap.size + 1, o, none⟩ = ((w.alloc (.cells #[.int .i64 x, .int .i64 y] 23)).alloc (.cells #[.int .i64 0, .int .i64 0] 23)).frozen? ⟨w.heap.size + 1, o, none⟩ := fun z o => z.frz (by simp <;> omega)
  refine wp_region_later_tail 9 (Below.refl _ _) (by kernel_rfl) (by kernel_rfl) ?_
  simp only [List.take_succ_cons, List.take_zero, List.drop_succ_cons, List.drop_zero]
  repeat (go_big_quiet_step (((go_at_call 44; exact calls_later_same (one_any _ _)))))
  refine wpQuiet_nil ?_
  intro _ hw'
  obtain ⟨y0, hw''⟩ := hw'
  subst hw''
  go_wp2
  (try simp only [Exit.inBlock, Exit.then])
  refine bodyPost_ret (v := pt (clp x) (clp y)) (by simp [results, Try.results31, go_sem, hl1]) rfl ?_
  exact ⟨rfl, (((box2 y0.ok).setCell (by simp <;> omega) _).setCell (by simp <;> omega) _)⟩
theorem ret_pt {a b c d : Int} (h : a = c) (h2 : b = d) : Ending.returned (pt a b) = .returned (pt c d) := by rw [h, h2]
set_option maxHeartbeats 1000000 in
theorem rclamp_any (x y : Int) (w : World) : Calls Try.prog 16 #[pt x y] w fun e w' => e = .returned (pt (clp x) (clp y)) ∧ Below w.heap.size w w' := by
  go_enter Try.func16, Try.ntmps16
  go_wp2
  all_goals
    go_returns
    exact ⟨ret_pt (by unfold clp clampI; (repeat' split) <;> omega) (by unfold clp clampI; (repeat' split) <;> omega), by go_grown⟩
set_option maxHeartbeats 1000000 in
theorem tick_any (px py vx vy ux uy : Int) (h1 : -1048576 ≤ px) (h2 : px ≤ 1048576) (h3 : -1048576 ≤ py) (h4 : py ≤ 1048576) (h5 : -1048576 ≤ ux) (h6 : ux ≤ 1048576) (h7 : -1048576 ≤ uy) (h8 : uy ≤ 1048576) (w : World) : Calls Try.prog 46 #[mo px py vx vy, pt ux uy] w fun e w' => e = .returned (mo (clp (px + ux)) (clp (py + uy)) ux uy) ∧ Below w.heap.size w w' := by
  go_enter Try.func46, Try.ntmps46
  go_wp2_with fail
  have hl0 : ∀ (z : Later (((w.alloc (.cells #[.int .i64 px, .int .i64 py, .int .i64 vx, .int .i64 vy] 25)).alloc (.cells #[.int .i64 ux, .int .i64 uy] 23)).alloc (.cells #[.int .i64 0, .int .i64 0, .int .i64 0, .int .i64 0] 25))) (o : Nat), z.val.cell? ⟨w.heap.size, o, none⟩ = (((w.alloc (.cells #[.int .i64 px, .int .i64 py, .int .i64 vx, .int .i64 vy] 25)).alloc (.cells #[.int .i64 ux, .int .i64 uy] 23)).alloc (.cells #[.int .i64 0, .int .i64 0, .int .i64 0, .int .i64 0] 25)).cell? ⟨w.heap.size, o, none⟩ := fun z o => z.cell (by simp <;> omega)
  have hl1 : ∀ (z : Later (((w.alloc (.cells #[.int .i64 px, .int .i64 py, .int .i64 vx, .int .i64 vy] 25)).alloc (.cells #[.int .i64 ux, .int .i64 uy] 23)).alloc (.cells #[.int .i64 0, .int .i64 0, .int .i64 0, .int .i64 0] 25))) (o : Nat), z.val.cell? ⟨w.heap.size + 1, o, none⟩ = (((w.alloc (.cells #[.int .i64 px, .int .i64 py, .int .i64 vx, .int .i64 vy] 25)).alloc (.cells #[.int .i64 ux, .int .i64 uy] 23)).alloc (.cells #[.int .i64 0, .int .i64 0, .int .i64 0, .int .i64 0] 25)).cell? ⟨w.heap.size + 1, o, none⟩ := fun z o => z.cell (by simp <;> omega)
  have hl2 : ∀ (z : Later (((w.alloc (.cells #[.int .i64 px, .int .i64 py, .int .i64 vx, .int .i64 vy] 25)).alloc (.cells #[.int .i64 ux, .int .i64 uy] 23)).alloc (.cells #[.int .i64 0, .int .i64 0, .int .i64 0, .int .i64 0] 25))) (o : Nat), z.val.cell? ⟨w.heap.size + 1 + 1, o, none⟩ = (((w.alloc (.cells #[.int .i64 px, .int .i64 py, .int .i64 vx, .int .i64 vy] 25)).alloc (.cells #[.int .i64 ux, .int .i64 uy] 23)).alloc (.cells #[.int .i64 0, .int .i64 0, .int .i64 0, .int .i64 0] 25)).cell? ⟨w.heap.size + 1 + 1, o, none⟩ := fun z o => z.cell (by simp <;> omega)
  have hz2 : ∀ (z : Later (((w.alloc (.cells #[.int .i64 px, .int .i64 py, .int .i64 vx, .int .i64 vy] 25)).alloc (.cells #[.int .i64 ux, .int .i64 uy] 23)).alloc (.cells #[.int .i64 0, .int .i64 0, .int .i64 0, .int .i64 0] 25))) (o : Nat), z.val.frozen? ⟨w.heap.size + 1 + 1, o, none⟩ = (((w.alloc (.cells #[.int .i64 px, .int .i64 py, .int .i64 vx, .int .i64 vy] 25)).alloc (.cells #[.int .i64 ux, .int .i64 uy] 23)).alloc (.cells #[.int .i64 0, .int .i64 0, .int .i64 0, .int .i64 0] 25)).frozen? ⟨w.heap.size + 1 + 1, o, none⟩ := fun z o => z.frz (by simp <;> omega)
  refine wp_region_later_tail 7 (Below.refl _ _) (by kernel_rfl) (by kernel_rfl) ?_
  simp only [List.take_succ_cons, List.take_zero, List.drop_succ_cons, List.drop_zero]
  repeat (go_big_quiet_step ((first | (go_at_call 49; exact calls_later (add_any _ _ _ _ (by omega) (by omega) (by omega) (by omega) (by omega) (by omega) (by omega) (by omega) _)) | (go_at_call 31; exact calls_later (clamped_any _ _ _)))))
  refine wpQuiet_nil ?_
  intro _ hw'
  obtain ⟨y0, hw''⟩ := hw'
  subst hw''
  go_wp2
  (try simp only [Exit.inBlock, Exit.then])
  refine bodyPost_ret (v := mo (clp (px + ux)) (clp (py + uy)) ux uy) (by simp [results, Try.results46, go_sem, hl2]) rfl ?_
  exact ⟨rfl, (((((box3 y0.ok).setCell (by simp <;> omega) _).setCell (by simp <;> omega) _).setCell (by simp <;> omega) _).setCell (by simp <;> omega) _)⟩
end Go.Proofs.Ythfpdlkeagoamaa
