/- Walks: Brake. -/
import Derived.Test.YtfcianhmfpenhaaWc
import Derived.Test.YtfcianhmfpenhaaMot2
import Derived.Deep.DeepCutAuto
namespace Go.Proofs.Ytfcianhmfpenhaa
open Go.RowKit
set_option linter.unusedVariables false
set_option linter.unusedSimpArgs false
theorem scale_brk (vx vy B : Int) (h1 : -4096 ≤ vx) (h2 : vx ≤ 4096) (h3 : -4096 ≤ vy) (h4 : vy ≤ 4096) (w : World) : Calls Try.prog 42 #[pt vx vy, .int .i64 (brkL vx vy B)] w fun e w' => e = .returned (pt (brkX vx vy B) (brkY vx vy B)) ∧ Below w.heap.size w w' := by
  have := scale_any vx vy (brkL vx vy B) (by omega) (by omega) (by omega) (by omega) w
  unfold brkX brkY
  rw [show max (brkL vx vy B) 0 = brkL vx vy B from by unfold brkL; omega] at this
  exact this
set_option maxHeartbeats 1000000 in
theorem braked_lo_any (S A B H M vx vy ux uy : Int) (h1 : -4096 ≤ vx) (h2 : vx ≤ 4096) (h3 : -4096 ≤ vy) (h4 : vy ≤ 4096) (b1 : 0 ≤ B) (b2 : B ≤ 4096) (hb : isq (sqr vx vy) ≤ B) (w : World) : Calls Try.prog 34 #[lim S A B H M, pt vx vy, pt ux uy] w fun e w' => e = .returned (pt (brkX vx vy B) (brkY vx vy B)) ∧ Below w.heap.size w w' := by
  have hq1 := sqr_nonneg vx vy
  have hq2 := sqr_le (x := vx) (y := vy) (b := 4096) (by omega) (by omega) (by omega) (by omega)
  obtain ⟨i1, i2⟩ := isq_le (n := sqr vx vy) (by omega)
  have hs := scale_brk vx vy B (by omega) (by omega) (by omega) (by omega)
  rw [brkL_lo hb] at hs
  have HS := hid hs
  clear hs
  go_enter Try.func34, Try.ntmps34
  go_wp2_with fail
  have hl0 : ∀ (z : Later ((((w.alloc (.cells #[.int .i64 S, .int .i64 A, .int .i64 B, .int .i64 H, .int .i64 M] 74)).alloc (.cells #[.int .i64 vx, .int .i64 vy] 35)).alloc (.cells #[.int .i64 ux, .int .i64 uy] 35)).alloc (.cells #[.int .i64 0, .int .i64 0] 35))) (o : Nat), z.val.cell? ⟨w.heap.size, o, none⟩ = ((((w.alloc (.cells #[.int .i64 S, .int .i64 A, .int .i64 B, .int .i64 H, .int .i64 M] 74)).alloc (.cells #[.int .i64 vx, .int .i64 vy] 35)).alloc (.cells #[.int .i64 ux, .int .i64 uy] 35)).alloc (.cells #[.int .i64 0, .int .i64 0] 35)).cell? ⟨w.heap.size, o, none⟩ := fun z o => z.cell (by simp <;> omega)
  have hl1 : ∀ (z : Later ((((w.alloc (.cells #[.int .i64 S, .int .i64 A, .int .i64 B, .int .i64 H, .int .i64 M] 74)).alloc (.cells #[.int .i64 vx, .int .i64 vy] 35)).alloc (.cells #[.int .i64 ux, .int .i64 uy] 35)).alloc (.cells #[.int .i64 0, .int .i64 0] 35))) (o : Nat), z.val.cell? ⟨w.heap.size + 1, o, none⟩ = ((((w.alloc (.cells #[.int .i64 S, .int .i64 A, .int .i64 B, .int .i64 H, .int .i64 M] 74)).alloc (.cells #[.int .i64 vx, .int .i64 vy] 35)).alloc (.cells #[.int .i64 ux, .int .i64 uy] 35)).alloc (.cells #[.int .i64 0, .int .i64 0] 35)).cell? ⟨w.heap.size + 1, o, none⟩ := fun z o => z.cell (by simp <;> omega)
  have hl2 : ∀ (z : Later ((((w.alloc (.cells #[.int .i64 S, .int .i64 A, .int .i64 B, .int .i64 H, .int .i64 M] 74)).alloc (.cells #[.int .i64 vx, .int .i64 vy] 35)).alloc (.cells #[.int .i64 ux, .int .i64 uy] 35)).alloc (.cells #[.int .i64 0, .int .i64 0] 35))) (o : Nat), z.val.cell? ⟨w.heap.size + 1 + 1, o, none⟩ = ((((w.alloc (.cells #[.int .i64 S, .int .i64 A, .int .i64 B, .int .i64 H, .int .i64 M] 74)).alloc (.cells #[.int .i64 vx, .int .i64 vy] 35)).alloc (.cells #[.int .i64 ux, .int .i64 uy] 35)).alloc (.cells #[.int .i64 0, .int .i64 0] 35)).cell? ⟨w.heap.size + 1 + 1, o, none⟩ := fun z o => z.cell (by simp <;> omega)
  have hl3 : ∀ (z : Later ((((w.alloc (.cells #[.int .i64 S, .int .i64 A, .int .i64 B, .int .i64 H, .int .i64 M] 74)).alloc (.cells #[.int .i64 vx, .int .i64 vy] 35)).alloc (.cells #[.int .i64 ux, .int .i64 uy] 35)).alloc (.cells #[.int .i64 0, .int .i64 0] 35))) (o : Nat), z.val.cell? ⟨w.heap.size + 1 + 1 + 1, o, none⟩ = ((((w.alloc (.cells #[.int .i64 S, .int .i64 A, .int .i64 B, .int .i64 H, .int .i64 M] 74)).alloc (.cells #[.int .i64 vx, .int .i64 vy] 35)).alloc (.cells #[.int .i64 ux, .int .i64 uy] 35)).alloc (.cells #[.int .i64 0, .int .i64 0] 35)).cell? ⟨w.heap.size + 1 + 1 + 1, o, none⟩ := fun z o => z.cell (by simp <;> omega)
  have hz3 : ∀ (z : Later ((((w.alloc (.cells #[.int .i64 S, .int .i64 A, .int .i64 B, .int .i64 H, .int .i64 M] 74)).alloc (.cells #[.int .i64 vx, .int .i64 vy] 35)).alloc (.cells #[.int .i64 ux, .int .i64 uy] 35)).alloc (.cells #[.int .i64 0, .int .i64 0] 35))) (o : Nat), z.val.frozen? ⟨w.heap.size + 1 + 1 + 1, o, none⟩ = ((((w.alloc (.cells #[.int .i64 S, .int .i64 A, .int .i64 B, .int .i64 H, .int .i64 M] 74)).alloc (.cells #[.int .i64 vx, .int .i64 vy] 35)).alloc (.cells #[.int .i64 ux, .int .i64 uy] 35)).alloc (.cells #[.int .i64 0, .int .i64 0] 35)).frozen? ⟨w.heap.size + 1 + 1 + 1, o, none⟩ := fun z o => z.frz (by simp <;> omega)
  refine wp_region_later_tail 9 (Below.refl _ _) (by kernel_rfl) (by kernel_rfl) ?_
  simp only [List.take_succ_cons, List.take_zero, List.drop_succ_cons, List.drop_zero]
  repeat (go_big_quiet_step ((first | (go_at_call 45; exact calls_later (length_any _ _ (by omega) (by omega) (by omega) (by omega) _)) | (go_at_call 42; with_reducible exact calls_later (HS.out _)))))
  refine wpQuiet_nil ?_
  intro _ hw'
  obtain ⟨y0, hw''⟩ := hw'
  subst hw''
  go_wp2
  (try simp only [Exit.inBlock, Exit.then])
  refine bodyPost_ret (v := pt (brkX vx vy B) (brkY vx vy B)) (by simp [results, Try.results34, go_sem, hl3]) rfl ?_
  exact ⟨rfl, (((below_box (box3 y0.ok)).setCell (by simp <;> omega) _).setCell (by simp <;> omega) _)⟩
set_option maxHeartbeats 1000000 in
theorem braked_hi_any (S A B H M vx vy ux uy : Int) (h1 : -4096 ≤ vx) (h2 : vx ≤ 4096) (h3 : -4096 ≤ vy) (h4 : vy ≤ 4096) (b1 : 0 ≤ B) (b2 : B ≤ 4096) (hb : B < isq (sqr vx vy)) (w : World) : Calls Try.prog 34 #[lim S A B H M, pt vx vy, pt ux uy] w fun e w' => e = .returned (pt (brkX vx vy B) (brkY vx vy B)) ∧ Below w.heap.size w w' := by
  have hq1 := sqr_nonneg vx vy
  have hq2 := sqr_le (x := vx) (y := vy) (b := 4096) (by omega) (by omega) (by omega) (by omega)
  obtain ⟨i1, i2⟩ := isq_le (n := sqr vx vy) (by omega)
  have hs := scale_brk vx vy B (by omega) (by omega) (by omega) (by omega)
  rw [brkL_hi hb] at hs
  have HS := hid hs
  clear hs
  go_enter Try.func34, Try.ntmps34
  go_wp2_with fail
  have hl0 : ∀ (z : Later ((((w.alloc (.cells #[.int .i64 S, .int .i64 A, .int .i64 B, .int .i64 H, .int .i64 M] 74)).alloc (.cells #[.int .i64 vx, .int .i64 vy] 35)).alloc (.cells #[.int .i64 ux, .int .i64 uy] 35)).alloc (.cells #[.int .i64 0, .int .i64 0] 35))) (o : Nat), z.val.cell? ⟨w.heap.size, o, none⟩ = ((((w.alloc (.cells #[.int .i64 S, .int .i64 A, .int .i64 B, .int .i64 H, .int .i64 M] 74)).alloc (.cells #[.int .i64 vx, .int .i64 vy] 35)).alloc (.cells #[.int .i64 ux, .int .i64 uy] 35)).alloc (.cells #[.int .i64 0, .int .i64 0] 35)).cell? ⟨w.heap.size, o, none⟩ := fun z o => z.cell (by simp <;> omega)
  have hl1 : ∀ (z : Later ((((w.alloc (.cells #[.int .i64 S, .int .i64 A, .int .i64 B, .int .i64 H, .int .i64 M] 74)).alloc (.cells #[.int .i64 vx, .int .i64 vy] 35)).alloc (.cells #[.int .i64 ux, .int .i64 uy] 35)).alloc (.cells #[.int .i64 0, .int .i64 0] 35))) (o : Nat), z.val.cell? ⟨w.heap.size + 1, o, none⟩ = ((((w.alloc (.cells #[.int .i64 S, .int .i64 A, .int .i64 B, .int .i64 H, .int .i64 M] 74)).alloc (.cells #[.int .i64 vx, .int .i64 vy] 35)).alloc (.cells #[.int .i64 ux, .int .i64 uy] 35)).alloc (.cells #[.int .i64 0, .int .i64 0] 35)).cell? ⟨w.heap.size + 1, o, none⟩ := fun z o => z.cell (by simp <;> omega)
  have hl2 : ∀ (z : Later ((((w.alloc (.cells #[.int .i64 S, .int .i64 A, .int .i64 B, .int .i64 H, .int .i64 M] 74)).alloc (.cells #[.int .i64 vx, .int .i64 vy] 35)).alloc (.cells #[.int .i64 ux, .int .i64 uy] 35)).alloc (.cells #[.int .i64 0, .int .i64 0] 35))) (o : Nat), z.val.cell? ⟨w.heap.size + 1 + 1, o, none⟩ = ((((w.alloc (.cells #[.int .i64 S, .int .i64 A, .int .i64 B, .int .i64 H, .int .i64 M] 74)).alloc (.cells #[.int .i64 vx, .int .i64 vy] 35)).alloc (.cells #[.int .i64 ux, .int .i64 uy] 35)).alloc (.cells #[.int .i64 0, .int .i64 0] 35)).cell? ⟨w.heap.size + 1 + 1, o, none⟩ := fun z o => z.cell (by simp <;> omega)
  have hl3 : ∀ (z : Later ((((w.alloc (.cells #[.int .i64 S, .int .i64 A, .int .i64 B, .int .i64 H, .int .i64 M] 74)).alloc (.cells #[.int .i64 vx, .int .i64 vy] 35)).alloc (.cells #[.int .i64 ux, .int .i64 uy] 35)).alloc (.cells #[.int .i64 0, .int .i64 0] 35))) (o : Nat), z.val.cell? ⟨w.heap.size + 1 + 1 + 1, o, none⟩ = ((((w.alloc (.cells #[.int .i64 S, .int .i64 A, .int .i64 B, .int .i64 H, .int .i64 M] 74)).alloc (.cells #[.int .i64 vx, .int .i64 vy] 35)).alloc (.cells #[.int .i64 ux, .int .i64 uy] 35)).alloc (.cells #[.int .i64 0, .int .i64 0] 35)).cell? ⟨w.heap.size + 1 + 1 + 1, o, none⟩ := fun z o => z.cell (by simp <;> omega)
  have hz3 : ∀ (z : Later ((((w.alloc (.cells #[.int .i64 S, .int .i64 A, .int .i64 B, .int .i64 H, .int .i64 M] 74)).alloc (.cells #[.int .i64 vx, .int .i64 vy] 35)).alloc (.cells #[.int .i64 ux, .int .i64 uy] 35)).alloc (.cells #[.int .i64 0, .int .i64 0] 35))) (o : Nat), z.val.frozen? ⟨w.heap.size + 1 + 1 + 1, o, none⟩ = ((((w.alloc (.cells #[.int .i64 S, .int .i64 A, .int .i64 B, .int .i64 H, .int .i64 M] 74)).alloc (.cells #[.int .i64 vx, .int .i64 vy] 35)).alloc (.cells #[.int .i64 ux, .int .i64 uy] 35)).alloc (.cells #[.int .i64 0, .int .i64 0] 35)).frozen? ⟨w.heap.size + 1 + 1 + 1, o, none⟩ := fun z o => z.frz (by simp <;> omega)
  refine wp_region_later_tail 9 (Below.refl _ _) (by kernel_rfl) (by kernel_rfl) ?_
  simp only [List.take_succ_cons, List.take_zero, List.drop_succ_cons, List.drop_zero]
  repeat (go_big_quiet_step ((first | (go_at_call 45; exact calls_later (length_any _ _ (by omega) (by omega) (by omega) (by omega) _)) | (go_at_call 42; with_reducible exact calls_later (HS.out _)))))
  refine wpQuiet_nil ?_
  intro _ hw'
  obtain ⟨y0, hw''⟩ := hw'
  subst hw''
  go_wp2
  (try simp only [Exit.inBlock, Exit.then])
  refine bodyPost_ret (v := pt (brkX vx vy B) (brkY vx vy B)) (by simp [results, Try.results34, go_sem, hl3]) rfl ?_
  exact ⟨rfl, (((below_box (box3 y0.ok)).setCell (by simp <;> omega) _).setCell (by simp <;> omega) _)⟩
theorem braked_any (S A B H M vx vy ux uy : Int) (h1 : -4096 ≤ vx) (h2 : vx ≤ 4096) (h3 : -4096 ≤ vy) (h4 : vy ≤ 4096) (b1 : 0 ≤ B) (b2 : B ≤ 4096) (w : World) : Calls Try.prog 34 #[lim S A B H M, pt vx vy, pt ux uy] w fun e w' => e = .returned (pt (brkX vx vy B) (brkY vx vy B)) ∧ Below w.heap.size w w' := by
  rcases Int.lt_or_le B (isq (sqr vx vy)) with h | h
  · exact braked_hi_any S A B H M vx vy ux uy h1 h2 h3 h4 b1 b2 h w
  · exact braked_lo_any S A B H M vx vy ux uy h1 h2 h3 h4 b1 b2 h w
abbrev rule (f : Nat) (S A B H M : Int) : Value := .func (.func f) #[lim S A B H M] #[]
set_option maxHeartbeats 1000000 in
theorem next35_any (S A B H M px py vx vy wx wy ux uy : Int) (h1 : -1048576 ≤ px) (h2 : px ≤ 1048576) (h3 : -1048576 ≤ py) (h4 : py ≤ 1048576) (h5 : -1048576 ≤ ux) (h6 : ux ≤ 1048576) (h7 : -1048576 ≤ uy) (h8 : uy ≤ 1048576) (HF : Hid (∀ w, Calls Try.prog 33 #[lim S A B H M, pt vx vy, pt wx wy] w fun e w' => e = .returned (pt ux uy) ∧ Below w.heap.size w w')) (w : World) : Calls Try.prog 32 #[mo px py vx vy, pt wx wy, rule 33 S A B H M] w fun e w' => e = .returned (mo (clp (px + ux)) (clp (py + uy)) ux uy) ∧ Below w.heap.size w w' := by
  go_enter Try.func32, Try.ntmps32
  go_wp2_with fail
  have hl0 : ∀ (z : Later (((w.alloc (.cells #[.int .i64 px, .int .i64 py, .int .i64 vx, .int .i64 vy] 37)).alloc (.cells #[.int .i64 wx, .int .i64 wy] 35)).alloc (.cells #[.int .i64 0, .int .i64 0, .int .i64 0, .int .i64 0] 37))) (o : Nat), z.val.cell? ⟨w.heap.size, o, none⟩ = (((w.alloc (.cells #[.int .i64 px, .int .i64 py, .int .i64 vx, .int .i64 vy] 37)).alloc (.cells #[.int .i64 wx, .int .i64 wy] 35)).alloc (.cells #[.int .i64 0, .int .i64 0, .int .i64 0, .int .i64 0] 37)).cell? ⟨w.heap.size, o, none⟩ := fun z o => z.cell (by simp <;> omega)
  have hl1 : ∀ (z : Later (((w.alloc (.cells #[.int .i64 px, .int .i64 py, .int .i64 vx, .int .i64 vy] 37)).alloc (.cells #[.int .i64 wx, .int .i64 wy] 35)).alloc (.cells #[.int .i64 0, .int .i64 0, .int .i64 0, .int .i64 0] 37))) (o : Nat), z.val.cell? ⟨w.heap.size + 1, o, none⟩ = (((w.alloc (.cells #[.int .i64 px, .int .i64 py, .int .i64 vx, .int .i64 vy] 37)).alloc (.cells #[.int .i64 wx, .int .i64 wy] 35)).alloc (.cells #[.int .i64 0, .int .i64 0, .int .i64 0, .int .i64 0] 37)).cell? ⟨w.heap.size + 1, o, none⟩ := fun z o => z.cell (by simp <;> omega)
  have hl2 : ∀ (z : Later (((w.alloc (.cells #[.int .i64 px, .int .i64 py, .int .i64 vx, .int .i64 vy] 37)).alloc (.cells #[.int .i64 wx, .int .i64 wy] 35)).alloc (.cells #[.int .i64 0, .int .i64 0, .int .i64 0, .int .i64 0] 37))) (o : Nat), z.val.cell? ⟨w.heap.size + 1 + 1, o, none⟩ = (((w.alloc (.cells #[.int .i64 px, .int .i64 py, .int .i64 vx, .int .i64 vy] 37)).alloc (.cells #[.int .i64 wx, .int .i64 wy] 35)).alloc (.cells #[.int .i64 0, .int .i64 0, .int .i64 0, .int .i64 0] 37)).cell? ⟨w.heap.size + 1 + 1, o, none⟩ := fun z o => z.cell (by simp <;> omega)
  have hz2 : ∀ (z : Later (((w.alloc (.cells #[.int .i64 px, .int .i64 py, .int .i64 vx, .int .i64 vy] 37)).alloc (.cells #[.int .i64 wx, .int .i64 wy] 35)).alloc (.cells #[.int .i64 0, .int .i64 0, .int .i64 0, .int .i64 0] 37))) (o : Nat), z.val.frozen? ⟨w.heap.size + 1 + 1, o, none⟩ = (((w.alloc (.cells #[.int .i64 px, .int .i64 py, .int .i64 vx, .int .i64 vy] 37)).alloc (.cells #[.int .i64 wx, .int .i64 wy] 35)).alloc (.cells #[.int .i64 0, .int .i64 0, .int .i64 0, .int .i64 0] 37)).frozen? ⟨w.heap.size + 1 + 1, o, none⟩ := fun z o => z.frz (by simp <;> omega)
  refine wp_region_later_tail 7 (Below.refl _ _) (by kernel_rfl) (by kernel_rfl) ?_
  simp only [List.take_succ_cons, List.take_zero, List.drop_succ_cons, List.drop_zero]
  repeat (go_big_quiet_step ((first | (go_at_call 41; exact calls_later (tick_any _ _ _ _ _ _ (by omega) (by omega) (by omega) (by omega) (by omega) (by omega) (by omega) (by omega) _)) | (go_at_call 33; exact calls_later (HF.out _)))))
  refine wpQuiet_nil ?_
  intro _ hw'
  obtain ⟨y0, hw''⟩ := hw'
  subst hw''
  go_wp2
  (try simp only [Exit.inBlock, Exit.then])
  refine bodyPost_ret (v := mo (clp (px + ux)) (clp (py + uy)) ux uy) (by simp [results, Try.results32, go_sem, hl2]) rfl ?_
  exact ⟨rfl, (((((box3 y0.ok).setCell (by simp <;> omega) _).setCell (by simp <;> omega) _).setCell (by simp <;> omega) _).setCell (by simp <;> omega) _)⟩
set_option maxHeartbeats 1000000 in
theorem next39_any (S A B H M px py vx vy wx wy ux uy : Int) (h1 : -1048576 ≤ px) (h2 : px ≤ 1048576) (h3 : -1048576 ≤ py) (h4 : py ≤ 1048576) (h5 : -1048576 ≤ ux) (h6 : ux ≤ 1048576) (h7 : -1048576 ≤ uy) (h8 : uy ≤ 1048576) (HF : Hid (∀ w, Calls Try.prog 34 #[lim S A B H M, pt vx vy, pt wx wy] w fun e w' => e = .returned (pt ux uy) ∧ Below w.heap.size w w')) (w : World) : Calls Try.prog 32 #[mo px py vx vy, pt wx wy, rule 34 S A B H M] w fun e w' => e = .returned (mo (clp (px + ux)) (clp (py + uy)) ux uy) ∧ Below w.heap.size w w' := by
  go_enter Try.func32, Try.ntmps32
  go_wp2_with fail
  have hl0 : ∀ (z : Later (((w.alloc (.cells #[.int .i64 px, .int .i64 py, .int .i64 vx, .int .i64 vy] 37)).alloc (.cells #[.int .i64 wx, .int .i64 wy] 35)).alloc (.cells #[.int .i64 0, .int .i64 0, .int .i64 0, .int .i64 0] 37))) (o : Nat), z.val.cell? ⟨w.heap.size, o, none⟩ = (((w.alloc (.cells #[.int .i64 px, .int .i64 py, .int .i64 vx, .int .i64 vy] 37)).alloc (.cells #[.int .i64 wx, .int .i64 wy] 35)).alloc (.cells #[.int .i64 0, .int .i64 0, .int .i64 0, .int .i64 0] 37)).cell? ⟨w.heap.size, o, none⟩ := fun z o => z.cell (by simp <;> omega)
  have hl1 : ∀ (z : Later (((w.alloc (.cells #[.int .i64 px, .int .i64 py, .int .i64 vx, .int .i64 vy] 37)).alloc (.cells #[.int .i64 wx, .int .i64 wy] 35)).alloc (.cells #[.int .i64 0, .int .i64 0, .int .i64 0, .int .i64 0] 37))) (o : Nat), z.val.cell? ⟨w.heap.size + 1, o, none⟩ = (((w.alloc (.cells #[.int .i64 px, .int .i64 py, .int .i64 vx, .int .i64 vy] 37)).alloc (.cells #[.int .i64 wx, .int .i64 wy] 35)).alloc (.cells #[.int .i64 0, .int .i64 0, .int .i64 0, .int .i64 0] 37)).cell? ⟨w.heap.size + 1, o, none⟩ := fun z o => z.cell (by simp <;> omega)
  have hl2 : ∀ (z : Later (((w.alloc (.cells #[.int .i64 px, .int .i64 py, .int .i64 vx, .int .i64 vy] 37)).alloc (.cells #[.int .i64 wx, .int .i64 wy] 35)).alloc (.cells #[.int .i64 0, .int .i64 0, .int .i64 0, .int .i64 0] 37))) (o : Nat), z.val.cell? ⟨w.heap.size + 1 + 1, o, none⟩ = (((w.alloc (.cells #[.int .i64 px, .int .i64 py, .int .i64 vx, .int .i64 vy] 37)).alloc (.cells #[.int .i64 wx, .int .i64 wy] 35)).alloc (.cells #[.int .i64 0, .int .i64 0, .int .i64 0, .int .i64 0] 37)).cell? ⟨w.heap.size + 1 + 1, o, none⟩ := fun z o => z.cell (by simp <;> omega)
  have hz2 : ∀ (z : Later (((w.alloc (.cells #[.int .i64 px, .int .i64 py, .int .i64 vx, .int .i64 vy] 37)).alloc (.cells #[.int .i64 wx, .int .i64 wy] 35)).alloc (.cells #[.int .i64 0, .int .i64 0, .int .i64 0, .int .i64 0] 37))) (o : Nat), z.val.frozen? ⟨w.heap.size + 1 + 1, o, none⟩ = (((w.alloc (.cells #[.int .i64 px, .int .i64 py, .int .i64 vx, .int .i64 vy] 37)).alloc (.cells #[.int .i64 wx, .int .i64 wy] 35)).alloc (.cells #[.int .i64 0, .int .i64 0, .int .i64 0, .int .i64 0] 37)).frozen? ⟨w.heap.size + 1 + 1, o, none⟩ := fun z o => z.frz (by simp <;> omega)
  refine wp_region_later_tail 7 (Below.refl _ _) (by kernel_rfl) (by kernel_rfl) ?_
  simp only [List.take_succ_cons, List.take_zero, List.drop_succ_cons, List.drop_zero]
  repeat (go_big_quiet_step ((first | (go_at_call 41; exact calls_later (tick_any _ _ _ _ _ _ (by omega) (by omega) (by omega) (by omega) (by omega) (by omega) (by omega) (by omega) _)) | (go_at_call 34; exact calls_later (HF.out _)))))
  refine wpQuiet_nil ?_
  intro _ hw'
  obtain ⟨y0, hw''⟩ := hw'
  subst hw''
  go_wp2
  (try simp only [Exit.inBlock, Exit.then])
  refine bodyPost_ret (v := mo (clp (px + ux)) (clp (py + uy)) ux uy) (by simp [results, Try.results32, go_sem, hl2]) rfl ?_
  exact ⟨rfl, (((((box3 y0.ok).setCell (by simp <;> omega) _).setCell (by simp <;> omega) _).setCell (by simp <;> omega) _).setCell (by simp <;> omega) _)⟩
def brX (px py vx vy S A B H M : Int) : Int := if vld px py vx vy S A B H M then brkX vx vy B else 0
def brY (px py vx vy S A B H M : Int) : Int := if vld px py vx vy S A B H M then brkY vx vy B else 0
theorem valid_of {px py vx vy S A B H M : Int} {b : Bool} (h : vld px py vx vy S A B H M = b) (w : World) : Calls Try.prog 31 #[mo px py vx vy, lim S A B H M] w fun e w' => e = .returned (.bool b) ∧ Below w.heap.size w w' := by
  rw [← h]; exact valid_any px py vx vy S A B H M w
theorem field_vel (a b c d : Int) (w : World) : (Instr.field 37 (mo a b c d) 1).run Try.prog w = .ok (pt c d) w := by kernel_rfl
set_option maxHeartbeats 2000000 in
theorem brake_any (px py vx vy S A B H M : Int) (w : World) : Calls Try.prog 23 #[mo px py vx vy, lim S A B H M] w fun e w' => e = .returned (pt (brX px py vx vy S A B H M) (brY px py vx vy S A B H M)) ∧ Below w.heap.size w w' := by
  cases e1 : vld px py vx vy S A B H M with
  | false =>
    have v1 : brX px py vx vy S A B H M = 0 := by unfold brX; rw [e1]; rfl
    have v2 : brY px py vx vy S A B H M = 0 := by unfold brY; rw [e1]; rfl
    rw [v1, v2]
    clear v1 v2
    have HV := hid (valid_of e1)
    clear e1
    go_enter Try.func23, Try.ntmps23
    go_wp2_with (first
      | (go_at_call 31; (with_reducible refine (HV.out _).mono ?_); rintro e w2 ⟨rfl, hb⟩; obtain ⟨hc, hf⟩ := bcell hb; have hz : w.heap.size + 1 + 1 < w2.heap.size := (by have := hb.size; simp at this; omega)))
    (try simp only [Exit.inBlock, Exit.then])
    refine bodyPost_ret (v := pt 0 0) (by simp [results, Try.results23, go_sem, hc]) rfl ?_
    exact ⟨rfl, ((box3 hb).setCell (by simp <;> omega) _).setCell (by simp <;> omega) _⟩
  | true =>
    have v1 : brX px py vx vy S A B H M = brkX vx vy B := by unfold brX; rw [e1]; rfl
    have v2 : brY px py vx vy S A B H M = brkY vx vy B := by unfold brY; rw [e1]; rfl
    rw [v1, v2]
    clear v1 v2
    have HV := hid (valid_of e1)
    obtain ⟨k1, k2⟩ := vld_true e1
    have k3 := chk_true k1
    have k4 := vld_abs e1
    have k5 := brk_range (vx := vx) (vy := vy) (B := B) (by omega) (by omega) (by omega) (by omega)
    have HN := hid (next39_any S A B H M px py vx vy 0 0 (brkX vx vy B) (brkY vx vy B) (by omega) (by omega) (by omega) (by omega) (by omega) (by omega) (by omega) (by omega) (hid (fun w => braked_any S A B H M vx vy 0 0 (by omega) (by omega) (by omega) (by omega) (by omega) (by omega) w)))
    clear e1 k1 k2 k3 k4 k5
    have qf := field_vel
    go_enter Try.func23, Try.ntmps23
    go_wp2_with (first
      | (go_at_call 31; (with_reducible refine (HV.out _).mono ?_); rintro e w2 ⟨rfl, hb⟩; obtain ⟨hc, hf⟩ := bcell hb; have hz : w.heap.size + 1 + 1 < w2.heap.size := (by have := hb.size; simp at this; omega))
      | (go_at_call 32; (with_reducible refine (HN.out _).mono ?_); rintro e w3 ⟨rfl, hb3⟩; obtain ⟨hc3, hf3⟩ := bcell hb3; have hz3 := hb3.size))
    (try simp only [Exit.inBlock, Exit.then])
    have d0 : w3.cell? ⟨w.heap.size + 1 + 1, 0, none⟩ = some (.int .i64 0) := (hc3 _ _ (by omega)).trans ((hc _ _ (by simp <;> omega)).trans (by simp [go_sem]))
    have d1 : w3.cell? ⟨w.heap.size + 1 + 1, 1, none⟩ = some (.int .i64 0) := (hc3 _ _ (by omega)).trans ((hc _ _ (by simp <;> omega)).trans (by simp [go_sem]))
    refine bodyPost_ret (v := pt (brkX vx vy B) (brkY vx vy B)) (by simp [results, Try.results23, go_sem, d0, d1]) rfl ?_
    exact ⟨rfl, (((box3 hb).trans (hb3.mono (by omega))).setCell (by simp <;> omega) _).setCell (by simp <;> omega) _⟩
end Go.Proofs.Ytfcianhmfpenhaa
