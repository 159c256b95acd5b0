/- Walks: Brake. -/
import Derived.Test.YthfpdlkeagoamaaWf
namespace Go.Proofs.Ythfpdlkeagoamaa
open Go.RowKit
set_option linter.unusedVariables false
def brX (px py vx vy S A B H M : Int) : Int := if vld px py vx vy S A B H M then brkX vx vy B else 0
def brY (px py vx vy S A B H M : Int) : Int := if vld px py vx vy S A B H M then brkY vx vy B else 0
theorem valid_of {px py vx vy S A B H M : Int} {b : Bool} (h : vld px py vx vy S A B H M = b) (w : World) : Calls Try.prog 12 #[mo px py vx vy, lim S A B H M] w fun e w' => e = .returned (.bool b) ∧ Below w.heap.size w w' := by
  rw [← h]; exact valid_any px py vx vy S A B H M w
theorem rvalid_of {px py vx vy S A B H M : Int} {b : Bool} (h : vld px py vx vy S A B H M = b) (w : World) : Calls Try.prog 13 #[mo px py vx vy, lim S A B H M] w fun e w' => e = .returned (.bool b) ∧ Below w.heap.size w w' := by
  rw [← h]; exact rvalid_any px py vx vy S A B H M w
theorem field_vel (a b c d : Int) (w : World) : (Instr.field 25 (mo a b c d) 1).run Try.prog w = .ok (pt c d) w := by kernel_rfl
set_option maxHeartbeats 2000000 in
theorem brake_any (px py vx vy S A B H M : Int) (w : World) : Calls Try.prog 18 #[mo px py vx vy, lim S A B H M] w fun e w' => e = .returned (pt (brX px py vx vy S A B H M) (brY px py vx vy S A B H M)) ∧ Below w.heap.size w w' := by
  cases e1 : vld px py vx vy S A B H M with
  | false =>
    have v1 : brX px py vx vy S A B H M = 0 := by unfold brX; rw [e1]; rfl
    have v2 : brY px py vx vy S A B H M = 0 := by unfold brY; rw [e1]; rfl
    rw [v1, v2]
    clear v1 v2
    have HV := hid (valid_of e1)
    clear e1
    go_enter Try.func18, Try.ntmps18
    go_wp2_with (first
      | (go_at_call 12; (with_reducible refine (HV.out _).mono ?_); rintro e w2 ⟨rfl, hb⟩; obtain ⟨hc, hf⟩ := bcell hb; have hz : w.heap.size + 1 + 1 < w2.heap.size := (by have := hb.size; simp at this; omega)))
    (try simp only [Exit.inBlock, Exit.then])
    refine bodyPost_ret (v := pt 0 0) (by simp [results, Try.results18, go_sem, hc]) rfl ?_
    exact ⟨rfl, ((box3 hb).setCell (by simp <;> omega) _).setCell (by simp <;> omega) _⟩
  | true =>
    have v1 : brX px py vx vy S A B H M = brkX vx vy B := by unfold brX; rw [e1]; rfl
    have v2 : brY px py vx vy S A B H M = brkY vx vy B := by unfold brY; rw [e1]; rfl
    rw [v1, v2]
    clear v1 v2
    have HV := hid (valid_of e1)
    obtain ⟨k1, k2⟩ := vld_true e1
    have k3 := chk_true k1
    have k4 := vld_abs e1
    have k5 := brk_range (vx := vx) (vy := vy) (B := B) (by omega) (by omega) (by omega) (by omega)
    have HN := hid (next39_any S A B H M px py vx vy 0 0 (brkX vx vy B) (brkY vx vy B) (by omega) (by omega) (by omega) (by omega) (by omega) (by omega) (by omega) (by omega) (hid (fun w => braked_any S A B H M vx vy 0 0 (by omega) (by omega) (by omega) (by omega) (by omega) (by omega) w)))
    clear e1 k1 k2 k3 k4 k5
    have qf := field_vel
    go_enter Try.func18, Try.ntmps18
    go_wp2_with (first
      | (go_at_call 12; (with_reducible refine (HV.out _).mono ?_); rintro e w2 ⟨rfl, hb⟩; obtain ⟨hc, hf⟩ := bcell hb; have hz : w.heap.size + 1 + 1 < w2.heap.size := (by have := hb.size; simp at this; omega))
      | (go_at_call 34; (with_reducible refine (HN.out _).mono ?_); rintro e w3 ⟨rfl, hb3⟩; obtain ⟨hc3, hf3⟩ := bcell hb3; have hz3 := hb3.size))
    (try simp only [Exit.inBlock, Exit.then])
    have d0 : w3.cell? ⟨w.heap.size + 1 + 1, 0, none⟩ = some (.int .i64 0) := (hc3 _ _ (by omega)).trans ((hc _ _ (by simp <;> omega)).trans (by simp [go_sem]))
    have d1 : w3.cell? ⟨w.heap.size + 1 + 1, 1, none⟩ = some (.int .i64 0) := (hc3 _ _ (by omega)).trans ((hc _ _ (by simp <;> omega)).trans (by simp [go_sem]))
    refine bodyPost_ret (v := pt (brkX vx vy B) (brkY vx vy B)) (by simp [results, Try.results18, go_sem, d0, d1]) rfl ?_
    exact ⟨rfl, (((box3 hb).trans (hb3.mono (by omega))).setCell (by simp <;> omega) _).setCell (by simp <;> omega) _⟩
theorem length_of {vx vy : Int} (h1 : -4096 ≤ vx) (h2 : vx ≤ 4096) (h3 : -4096 ≤ vy) (h4 : vy ≤ 4096) (w : World) : Calls Try.prog 21 #[pt vx vy] w fun e w' => e = .returned (.int .i64 (isq (sqr vx vy))) ∧ Below w.heap.size w w' := rlength_any _ _ (by omega) (by omega) (by omega) (by omega) w
set_option maxHeartbeats 2000000 in
theorem rbrake_lo (px py vx vy S A B H M : Int) (e1 : vld px py vx vy S A B H M = true) (hL : isq (sqr vx vy) ≤ B) (w : World) : Calls Try.prog 19 #[mo px py vx vy, lim S A B H M] w fun e w' => e = .returned (pt (brkX vx vy B) (brkY vx vy B)) ∧ Below w.heap.size w w' := by
  have HV := hid (rvalid_of e1)
  obtain ⟨k1, k2⟩ := vld_true e1
  have k3 := chk_true k1
  have k4 := vld_abs e1
  obtain ⟨v1, v2, v3, v4⟩ := k4
  have hq1 := sqr_nonneg vx vy
  have hq2 := sqr_le (x := vx) (y := vy) (b := 4096) (by omega) (by omega) (by omega) (by omega)
  obtain ⟨i1, i2⟩ := isq_le (n := sqr vx vy) (by omega)
  have hs := rscale_brk vx vy B (by omega) (by omega) (by omega) (by omega)
  rw [brkL_lo hL] at hs
  have HS := hid hs
  have b1 : 0 ≤ B := by omega
  have b2 : B ≤ 4096 := by omega
  clear hs e1 k1 k2 k3
  go_enter Try.func19, Try.ntmps19
  go_wp2_with (first
    | (go_at_call 13; (with_reducible refine (HV.out _).mono ?_); rintro e w2 ⟨rfl, hb⟩; obtain ⟨hc, hf⟩ := bcell hb; have hz : w.heap.size + 1 + 1 < w2.heap.size := (by have := hb.size; simp at this; omega)))
  have hl0 : ∀ (z : Later w2) (o : Nat), z.val.cell? ⟨w.heap.size, o, none⟩ = (((w.alloc (.cells #[.int .i64 px, .int .i64 py, .int .i64 vx, .int .i64 vy] 25)).alloc (.cells #[.int .i64 S, .int .i64 A, .int .i64 B, .int .i64 H, .int .i64 M] 27)).alloc (.cells #[.int .i64 0, .int .i64 0] 23)).cell? ⟨w.heap.size, o, none⟩ := fun z o => (z.cell (by omega)).trans (hc _ _ (by simp <;> omega))
  have hl1 : ∀ (z : Later w2) (o : Nat), z.val.cell? ⟨w.heap.size + 1, o, none⟩ = (((w.alloc (.cells #[.int .i64 px, .int .i64 py, .int .i64 vx, .int .i64 vy] 25)).alloc (.cells #[.int .i64 S, .int .i64 A, .int .i64 B, .int .i64 H, .int .i64 M] 27)).alloc (.cells #[.int .i64 0, .int .i64 0] 23)).cell? ⟨w.heap.size + 1, o, none⟩ := fun z o => (z.cell (by omega)).trans (hc _ _ (by simp <;> omega))
  have hl2 : ∀ (z : Later w2) (o : Nat), z.val.cell? ⟨w.heap.size + 1 + 1, o, none⟩ = (((w.alloc (.cells #[.int .i64 px, .int .i64 py, .int .i64 vx, .int .i64 vy] 25)).alloc (.cells #[.int .i64 S, .int .i64 A, .int .i64 B, .int .i64 H, .int .i64 M] 27)).alloc (.cells #[.int .i64 0, .int .i64 0] 23)).cell? ⟨w.heap.size + 1 + 1, o, none⟩ := fun z o => (z.cell (by omega)).trans (hc _ _ (by simp <;> omega))
  have hz2 : ∀ (z : Later w2) (o : Nat), z.val.frozen? ⟨w.heap.size + 1 + 1, o, none⟩ = (((w.alloc (.cells #[.int .i64 px, .int .i64 py, .int .i64 vx, .int .i64 vy] 25)).alloc (.cells #[.int .i64 S, .int .i64 A, .int .i64 B, .int .i64 H, .int .i64 M] 27)).alloc (.cells #[.int .i64 0, .int .i64 0] 23)).frozen? ⟨w.heap.size + 1 + 1, o, none⟩ := fun z o => (z.frz (by omega)).trans (hf _ _ (by simp <;> omega))
  clear hc hf
  refine wp_region_later_tail 10 (Below.refl _ _) (by kernel_rfl) (by kernel_rfl) ?_
  simp only [List.take_succ_cons, List.take_zero, List.drop_succ_cons, List.drop_zero]
  repeat (go_big_quiet_step ((first | (go_at_call 21; exact calls_later (length_of v1 v2 v3 v4 _)) | (go_at_call 36; with_reducible exact calls_later (HS.out _)))))
  refine wpQuiet_nil ?_
  intro _ hw'
  obtain ⟨y0, hw''⟩ := hw'
  subst hw''
  have hz2 := y0.size
  go_wp2
  (try simp only [Exit.inBlock, Exit.then])
  refine bodyPost_ret (v := pt (brkX vx vy B) (brkY vx vy B)) (by simp [results, Try.results19, go_sem, hl2]) rfl ?_
  exact ⟨rfl, (((box3 hb).trans (y0.ok.mono (by omega))).setCell (by simp <;> omega) _).setCell (by simp <;> omega) _⟩
set_option maxHeartbeats 2000000 in
theorem rbrake_hi (px py vx vy S A B H M : Int) (e1 : vld px py vx vy S A B H M = true) (hL : B < isq (sqr vx vy)) (w : World) : Calls Try.prog 19 #[mo px py vx vy, lim S A B H M] w fun e w' => e = .returned (pt (brkX vx vy B) (brkY vx vy B)) ∧ Below w.heap.size w w' := by
  have HV := hid (rvalid_of e1)
  obtain ⟨k1, k2⟩ := vld_true e1
  have k3 := chk_true k1
  have k4 := vld_abs e1
  obtain ⟨v1, v2, v3, v4⟩ := k4
  have hq1 := sqr_nonneg vx vy
  have hq2 := sqr_le (x := vx) (y := vy) (b := 4096) (by omega) (by omega) (by omega) (by omega)
  obtain ⟨i1, i2⟩ := isq_le (n := sqr vx vy) (by omega)
  have hs := rscale_brk vx vy B (by omega) (by omega) (by omega) (by omega)
  rw [brkL_hi hL] at hs
  have HS := hid hs
  have b1 : 0 ≤ B := by omega
  have b2 : B ≤ 4096 := by omega
  clear hs e1 k1 k2 k3
  go_enter Try.func19, Try.ntmps19
  go_wp2_with (first
    | (go_at_call 13; (with_reducible refine (HV.out _).mono ?_); rintro e w2 ⟨rfl, hb⟩; obtain ⟨hc, hf⟩ := bcell hb; have hz : w.heap.size + 1 + 1 < w2.heap.size := (by have := hb.size; simp at this; omega)))
  have hl0 : ∀ (z : Later w2) (o : Nat), z.val.cell? ⟨w.heap.size, o, none⟩ = (((w.alloc (.cells #[.int .i64 px, .int .i64 py, .int .i64 vx, .int .i64 vy] 25)).alloc (.cells #[.int .i64 S, .int .i64 A, .int .i64 B, .int .i64 H, .int .i64 M] 27)).alloc (.cells #[.int .i64 0, .int .i64 0] 23)).cell? ⟨w.heap.size, o, none⟩ := fun z o => (z.cell (by omega)).trans (hc _ _ (by simp <;> omega))
  have hl1 : ∀ (z : Later w2) (o : Nat), z.val.cell? ⟨w.heap.size + 1, o, none⟩ = (((w.alloc (.cells #[.int .i64 px, .int .i64 py, .int .i64 vx, .int .i64 vy] 25)).alloc (.cells #[.int .i64 S, .int .i64 A, .int .i64 B, .int .i64 H, .int .i64 M] 27)).alloc (.cells #[.int .i64 0, .int .i64 0] 23)).cell? ⟨w.heap.size + 1, o, none⟩ := fun z o => (z.cell (by omega)).trans (hc _ _ (by simp <;> omega))
  have hl2 : ∀ (z : Later w2) (o : Nat), z.val.cell? ⟨w.heap.size + 1 + 1, o, none⟩ = (((w.alloc (.cells #[.int .i64 px, .int .i64 py, .int .i64 vx, .int .i64 vy] 25)).alloc (.cells #[.int .i64 S, .int .i64 A, .int .i64 B, .int .i64 H, .int .i64 M] 27)).alloc (.cells #[.int .i64 0, .int .i64 0] 23)).cell? ⟨w.heap.size + 1 + 1, o, none⟩ := fun z o => (z.cell (by omega)).trans (hc _ _ (by simp <;> omega))
  have hz2 : ∀ (z : Later w2) (o : Nat), z.val.frozen? ⟨w.heap.size + 1 + 1, o, none⟩ = (((w.alloc (.cells #[.int .i64 px, .int .i64 py, .int .i64 vx, .int .i64 vy] 25)).alloc (.cells #[.int .i64 S, .int .i64 A, .int .i64 B, .int .i64 H, .int .i64 M] 27)).alloc (.cells #[.int .i64 0, .int .i64 0] 23)).frozen? ⟨w.heap.size + 1 + 1, o, none⟩ := fun z o => (z.frz (by omega)).trans (hf _ _ (by simp <;> omega))
  clear hc hf
  refine wp_region_later_tail 10 (Below.refl _ _) (by kernel_rfl) (by kernel_rfl) ?_
  simp only [List.take_succ_cons, List.take_zero, List.drop_succ_cons, List.drop_zero]
  repeat (go_big_quiet_step ((first | (go_at_call 21; exact calls_later (length_of v1 v2 v3 v4 _)) | (go_at_call 36; with_reducible exact calls_later (HS.out _)))))
  refine wpQuiet_nil ?_
  intro _ hw'
  obtain ⟨y0, hw''⟩ := hw'
  subst hw''
  have hz2 := y0.size
  go_wp2
  (try simp only [Exit.inBlock, Exit.then])
  refine bodyPost_ret (v := pt (brkX vx vy B) (brkY vx vy B)) (by simp [results, Try.results19, go_sem, hl2]) rfl ?_
  exact ⟨rfl, (((box3 hb).trans (y0.ok.mono (by omega))).setCell (by simp <;> omega) _).setCell (by simp <;> omega) _⟩
set_option maxHeartbeats 2000000 in
theorem rbrake_any (px py vx vy S A B H M : Int) (w : World) : Calls Try.prog 19 #[mo px py vx vy, lim S A B H M] w fun e w' => e = .returned (pt (brX px py vx vy S A B H M) (brY px py vx vy S A B H M)) ∧ Below w.heap.size w w' := by
  cases e1 : vld px py vx vy S A B H M with
  | false =>
    have v1 : brX px py vx vy S A B H M = 0 := by unfold brX; rw [e1]; rfl
    have v2 : brY px py vx vy S A B H M = 0 := by unfold brY; rw [e1]; rfl
    rw [v1, v2]
    clear v1 v2
    have HV := hid (rvalid_of e1)
    clear e1
    go_enter Try.func19, Try.ntmps19
    go_wp2_with (first
      | (go_at_call 13; (with_reducible refine (HV.out _).mono ?_); rintro e w2 ⟨rfl, hb⟩; obtain ⟨hc, hf⟩ := bcell hb; have hz : w.heap.size + 1 + 1 < w2.heap.size := (by have := hb.size; simp at this; omega)))
    (try simp only [Exit.inBlock, Exit.then])
    refine bodyPost_ret (v := pt 0 0) (by simp [results, Try.results19, go_sem, hc]) rfl ?_
    exact ⟨rfl, ((box3 hb).setCell (by simp <;> omega) _).setCell (by simp <;> omega) _⟩
  | true =>
    have v1 : brX px py vx vy S A B H M = brkX vx vy B := by unfold brX; rw [e1]; rfl
    have v2 : brY px py vx vy S A B H M = brkY vx vy B := by unfold brY; rw [e1]; rfl
    rw [v1, v2]
    rcases Int.lt_or_le B (isq (sqr vx vy)) with h | h
    · exact rbrake_hi px py vx vy S A B H M e1 h w
    · exact rbrake_lo px py vx vy S A B H M e1 h w
end Go.Proofs.Ythfpdlkeagoamaa
